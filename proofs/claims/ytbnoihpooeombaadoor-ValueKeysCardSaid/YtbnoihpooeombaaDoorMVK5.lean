/- Part 5 of what is behind the row RowValueKeys: Pf5. -/
import Derived.Test.YtbnoihpooeombaaDoorMVK4
import Derived.Test.YtbnoihpooeombaaDoorProg
import Derived.Below
import Derived.Deep.Draws
import Derived.Deep.AppendLies
import Derived.Maps.AppendAt
import Derived.OwnWalk
import Derived.Laws.BytesArg
import Derived.Laws.MakeOwn
import Derived.Laws.OwnMore
import Derived.Deep.OwnRows
import Derived.Tactics
import Derived.Lib.ConvBytes
import Derived.Laws.Slices
import Derived.WalkKit
import Derived.KernelRfl
import Derived.RowKit3
import Derived.Deep.LoopGhost
import Derived.Deep.QuietTactic
import Derived.BigQuiet
import Derived.WideLaws
import Derived.Deep.DeepCutAuto
import Derived.Deep.CutBlock
import Derived.Deep.RegionHeld3
import Derived.Laws.Rows
import Derived.Lib.AppendStr
import Derived.ArgAppend
import Derived.Laws.IdiomCopy
import Derived.OrdersHeld
import Derived.Laws.BitsLemmas
import Derived.RowKit
import Derived.Laws.Cover1
import Derived.Laws.StructEq
import Derived.Lib.ItoaNum
import Derived.Lib.ItoaMem
import Derived.Deep.AppendSrc
import Derived.Lib.SliceRun
import Derived.Outline
import Derived.WalkLawsBesides
import Derived.WalkSpells
import Derived.LoopTactic
import Derived.Lib.Hide
import Derived.Lib.IndexMore
import Derived.Lib.Bytealg
import Derived.Laws.BitsAllLaws
import Derived.Lib.Repeat
import Derived.Lib.AppendZerosOnto
import Derived.Lib.Overlaps
import Derived.Laws.Externs
import Derived.Laws.CopyOwn
import Derived.Shelf.RegionOpenPlain
import Derived.Laws.Bits64b
import Derived.Laws.NewBlocks
import Derived.Lib.AppendIntMem
import Derived.Shelf.Strings.Builder1
import Derived.Shelf.Strings.Builder2
import Derived.Shelf.Strings.OnBuilder
import Derived.Shelf.Strings.BuilderF
import Derived.Shelf.Strings.BuilderK
import Derived.Shelf.Strconv.Itoa0
import Derived.Shelf.Strconv.Itoa1
import Derived.Shelf.LaysM
import Derived.Shelf.Strconv.Itoa2
import Derived.Shelf.Strconv.Itoa3
import Derived.Shelf.Strings.Prefix
import Derived.Shelf.Bits.Mul64
import Derived.Shelf.Strings.Repeat
import Derived.Deep.DeepMust
import Derived.Lib.ItoaLen
namespace Go.Proofs.YtbnoihpooeombaaDoor.P
open Go.Proofs.YtbnoihpooeombaaDoor.X
open Go.RowKit Go.Proofs.YtbnoihpooeombaaDoorW.PrintWords Go.Proofs.YtbnoihpooeombaaDoorW.PrintLast Go.Proofs.YtbnoihpooeombaaDoorW.PrintMore
attribute [local go_sem] qAu qA0
set_option linter.unusedVariables false
set_option linter.unusedSimpArgs false
set_option maxHeartbeats 80000000 in
set_option maxRecDepth 100000 in
theorem hogsheadlaw15_ValueKeys.calls (k : Nat) (A0 : Option Addr) (c0 : Nat) (l0 : List ByteArray) (A1 : Option Addr) (c1 : Nat) (l1 : List Int) (r : Bool) (w : World) (hT : Aside0 (Tabs w)) (hr0 : Kd.C Kd.string w A0 l0.length l0) (hc0 : l0.length ≤ c0) (hr1 : Kd.C (Kd.int .i64) w A1 l1.length l1) (hc1 : l1.length ≤ c1) (h : hogsheadlaw15_ValueKeys.f k l0 l1 = some r) (hr_ : Aside0 (r = true)) :
  Calls Tryd.prog 5 #[.slice A0 l0.length c0, .slice A1 l1.length c1] w fun e w' => e = .returned (.bool r) ∧ Below w.heap.size w w' := by
 have hu25 := Tryd.underlying25
 have HR0 := Aside0.mk hr0
 have HC0 := Aside0.mk hc0
 clear hr0 hc0
 have HR1 := Aside0.mk hr1
 have HC1 := Aside0.mk hc1
 clear hr1 hc1
 have HB := Aside0.mk (Below.refl w.heap.size w)
 have H : ((hogsheadlaw0_GreatTexts.f k l0 12 100).bind fun t311 => (if t311 = true then (hogsheadlaw15_ValueKeys.j0 k l0 l1 true) else (hogsheadlaw15_ValueKeys.j0 k l0 l1 ((l1.length : Int) != (l0.length : Int))))) = some r := h
 clear h
 have HC3 := Aside0.mk H
 clear H
 go_enter Tryd.func5, Tryd.ntmps5
 go_upto_region 1 with (fail)
 go_cut [26] (fun v26 wc => ∃ (kq : Nat) (x26_2 : Bool), v26 = .bool x26_2 ∧ Aside0 (hogsheadlaw15_ValueKeys.j0 kq l0 l1 x26_2 = some r) ∧ Aside0 (kq ≤ k) ∧ Aside0 (Below w.heap.size w wc))
 case first =>
  have H := HC3.out
  clear HC3
  replace H := Option.bind_eq_some_iff.mp H
  obtain ⟨t311, A40, H⟩ := H
  replace H : (if t311 = true then (hogsheadlaw15_ValueKeys.j0 k l0 l1 true) else (hogsheadlaw15_ValueKeys.j0 k l0 l1 ((l1.length : Int) != (l0.length : Int)))) = some r := H
  have A4 := Aside0.mk A40
  clear A40
  by_cases c5 : t311 = true
  ·subst c5
   have H1 : (hogsheadlaw15_ValueKeys.j0 k l0 l1 true) = some r := by rw [if_pos rfl] at H; exact H
   clear H
   have H := H1
   clear H1
   have H' := Aside0.mk H
   clear H
   go_wp2_with (first | ((with_reducible refine qAp (f := 28) rfl ?_); refine goesL_ (some 19) rfl rfl Tryd.func28 (by kernel_rfl) rfl #[.slice A0 l0.length c0, .int .i64 12, .int .i64 100] rfl (by (try simp only [List.map_toArray, List.map_cons, List.map_nil]); first | done | rfl | (simp only [List.length_drop, List.length_take]; rfl)) ?_; (with_reducible refine (hogsheadlaw0_GreatTexts.calls k _ _ l0 12 100 true _ ?side1 ?side2 A4.out).mono ?_); (case side1 => repeat (first | exact (Kd.C_below HR0.out HB.out) | (with_reducible refine Kd.C_alloc ?_ _) | (with_reducible refine Kd.C_drewN ?_ _) | (with_reducible refine Kd.C_drew ?_))); (case side2 => exact HC0.out); rintro e w' ⟨rfl, ⟨nd, rfl⟩⟩; refine ⟨_, rfl, ?_⟩))
   go_meet
   case rel => exact ⟨_, (true), (by first | rfl | (simp; done) | (simp [*]; done) | exact congrArg Value.bool (nil_ne _) | exact congrArg Value.bool (nil_eq _) | exact congrArg Value.bool (nil_ne' _)), H', ⟨by first | omega | exact Nat.le_refl _⟩, ⟨by repeat (first | (with_reducible first | exact HB.out | apply qAd | apply qAc | apply qAe) | exact HB.out)⟩⟩
  ·replace c5 := Bool.eq_false_iff.mpr c5
   subst c5
   have H1 : (hogsheadlaw15_ValueKeys.j0 k l0 l1 ((l1.length : Int) != (l0.length : Int))) = some r := by rw [if_neg (show ¬ (false = true) by decide)] at H; exact H
   clear H
   have H := H1
   clear H1
   have H' := Aside0.mk H
   clear H
   go_wp2_with (first | ((with_reducible refine qAp (f := 28) rfl ?_); refine goesL_ (some 19) rfl rfl Tryd.func28 (by kernel_rfl) rfl #[.slice A0 l0.length c0, .int .i64 12, .int .i64 100] rfl (by (try simp only [List.map_toArray, List.map_cons, List.map_nil]); first | done | rfl | (simp only [List.length_drop, List.length_take]; rfl)) ?_; (with_reducible refine (hogsheadlaw0_GreatTexts.calls k _ _ l0 12 100 false _ ?side1 ?side2 A4.out).mono ?_); (case side1 => repeat (first | exact (Kd.C_below HR0.out HB.out) | (with_reducible refine Kd.C_alloc ?_ _) | (with_reducible refine Kd.C_drewN ?_ _) | (with_reducible refine Kd.C_drew ?_))); (case side2 => exact HC0.out); rintro e w' ⟨rfl, ⟨nd, rfl⟩⟩; refine ⟨_, rfl, ?_⟩))
   go_meet
   case rel => exact ⟨_, (((l1.length : Int) != (l0.length : Int))), (by first | rfl | (simp; done) | (simp [*]; done) | exact congrArg Value.bool (nil_ne _) | exact congrArg Value.bool (nil_eq _) | exact congrArg Value.bool (nil_ne' _)), H', ⟨by first | omega | exact Nat.le_refl _⟩, ⟨by repeat (first | (with_reducible first | exact HB.out | apply qAd | apply qAc | apply qAe) | exact HB.out)⟩⟩
 case rest =>
  clear HC3
  try clear c1
  try clear c2
  try clear p2
  try clear c5
  obtain ⟨kq, x26_2, rfl, HA, HJ2, HB⟩ := hcut
  cases kq with
  | zero => exact absurd HA.out (by simp [hogsheadlaw15_ValueKeys.j0])
  | succ kj2 =>
   have H := HA.out
   clear HA
   simp only [hogsheadlaw15_ValueKeys.j0] at H
   by_cases c6 : x26_2 = true
   ·subst c6
    have H1 : ((hogsheadlaw15_awake.f kj2).bind fun t312 => (some t312)) = some r := by rw [if_pos rfl] at H; exact H
    clear H
    have H := H1
    clear H1
    replace H := Option.bind_eq_some_iff.mp H
    obtain ⟨t312, A70, H⟩ := H
    replace H : (some t312) = some r := H
    have A7 := Aside0.mk A70
    clear A70
    obtain rfl := Option.some.inj H
    go_wp2_with (first | ((with_reducible refine qAp (f := 15) rfl ?_); refine goesL_ (some 27) rfl rfl Tryd.func15 (by kernel_rfl) rfl #[] rfl (by (try simp only [List.map_toArray, List.map_cons, List.map_nil]); first | done | rfl | (simp only [List.length_drop, List.length_take]; rfl)) ?_; (with_reducible refine (hogsheadlaw15_awake.calls kj2  t312 _ ?side1 A7.out).mono ?_); (case side1 => exact ⟨Tabs.below hT.out (by repeat (first | (with_reducible first | exact HB.out | apply qAd | apply qAc | apply qAe) | exact HB.out))⟩); rintro e w8 ⟨rfl, hb⟩; refine ⟨_, rfl, ?_⟩; have n0_ := Aside0.mk (qAi (by repeat (first | (with_reducible first | exact HB.out | apply qAd | apply qAc | apply qAe) | exact HB.out)) hb); clear HB; have HB := n0_; clear n0_; (try clear hb); (try clear hb2); (try clear hk); (try clear hi)))
    go_ret
    exact ⟨by first | rfl | (simp [qAm, qAl] <;> rfl) | (simp [*, qAm, qAl] <;> rfl), by repeat (first | (with_reducible first | exact HB.out | apply qAd | apply qAc | apply qAe) | exact HB.out)⟩
   ·replace c6 := Bool.eq_false_iff.mpr c6
    subst c6
    have H1 : (hogsheadlaw15_ValueKeys.l0 kj2 l0 l1 ([] : List (S25)) 0) = some r := by rw [if_neg (show ¬ (false = true) by decide)] at H; exact H
    clear H
    have H := H1
    clear H1
    have H' := Aside0.mk H
    clear H
    go_wp2
    go_loopg [5, 8] kj2 (fun kq v5 v8 w' => ∃ (x5_2 : List (S25)) (x8_2 : Int), v8 = .int .i64 x8_2 ∧ Aside0 (hogsheadlaw15_ValueKeys.l0 kq l0 l1 x5_2 x8_2 = some r) ∧ Aside0 (kq ≤ kj2) ∧ Aside0 (Kd.N k25 25 w' w.heap.size (fun _ => True) v5 x5_2) ∧ Aside0 (Below w.heap.size w w'))
    case atStart => exact ⟨(([] : List (S25))), (0), (by first | rfl | (simp; done) | (simp [*]; done) | exact congrArg Value.bool (nil_ne _) | exact congrArg Value.bool (nil_eq _) | exact congrArg Value.bool (nil_ne' _)), H', ⟨Nat.le_refl _⟩, ⟨by first | exact Kd.R_nil _ _ _ _ _ | exact Kd.N_nil _ _ _ _ _ | exact Kd.V_nil _ _ _ _ _ | exact Kd.Q_nil _ _ _ _ _ | exact Kd.S_nil _ _ _ _ _⟩, ⟨by repeat (first | (with_reducible first | exact HB.out | apply qAd | apply qAc | apply qAe) | exact HB.out)⟩⟩
    case round =>
     clear H'
     try clear c1
     try clear c2
     try clear p2
     try clear c5
     try clear c6
     try clear p2
     obtain ⟨x5_2, x8_2, rfl, HA, HK2, HO_5, HB⟩ := hrel
     cases gk with
     | zero => exact absurd HA.out (by simp [hogsheadlaw15_ValueKeys.l0])
     | succ k2 =>
      have H := HA.out
      clear HA
      simp only [hogsheadlaw15_ValueKeys.l0] at H
      by_cases c9 : x8_2 < (l0.length : Int)
      ·rw [if_pos c9] at H
       have c9b0 : decide (x8_2 < (l0.length : Int)) = true := decide_eq_true c9
       clear c9
       by_cases c10 : 0 ≤ x8_2
       ·rw [if_pos c10] at H
        have c10b0 : decide (0 ≤ x8_2) = true := decide_eq_true c10
        clear c10
        by_cases c11 : x8_2 < (l1.length : Int)
        ·rw [if_pos c11] at H
         have c11b0 : decide (x8_2 < (l1.length : Int)) = true := decide_eq_true c11
         clear c11
         replace H := Option.bind_eq_some_iff.mp H
         obtain ⟨t314, A120, H⟩ := H
         replace H : (if x5_2.length < 1599289640401 then (hogsheadlaw15_ValueKeys.l0 k2 l0 l1 (x5_2 ++ [(⟨2, false, t314, (⟨#[]⟩ : ByteArray), ([] : List (S25)), ([] : List ByteArray)⟩ : S25)]) (wrap64 (x8_2 + 1))) else (none)) = some r := H
         have A12 := Aside0.mk A120
         clear A120
         by_cases c13 : x5_2.length < 1599289640401
         ·rw [if_pos c13] at H
          have LMc13 := Aside0.mk c13
          clear c13
          obtain ⟨y315, hy315⟩ : ∃ y_ : List (S25), y_ = (x5_2 ++ [(⟨2, false, t314, (⟨#[]⟩ : ByteArray), ([] : List (S25)), ([] : List ByteArray)⟩ : S25)]) := ⟨_, rfl⟩
          replace H : (hogsheadlaw15_ValueKeys.l0 k2 l0 l1 y315 (wrap64 (x8_2 + 1))) = some r := by first | (rw [hy315]; with_reducible exact H) | (have H2_ := (Option.bind_some _ _).symm.trans H; rw [hy315]; with_reducible exact H2_) | (have H2_ := (Option.bind_some _ _).symm.trans H; with_reducible exact H2_) | with_reducible exact H | (rw [hy315]; exact H) | exact H
          have Ny315 := Aside0.mk hy315
          clear hy315
          have H' := Aside0.mk H
          clear H
          have p313 : 0 ≤ (x8_2 : Int) := of_decide_eq_true (by first | (with_reducible assumption) | assumption)
          have q313 : x8_2 < (l1.length : Int) := of_decide_eq_true (by first | (with_reducible assumption) | assumption)
          obtain ⟨ad313, e313, hx313_0⟩ := Kd.at_int HR1.out x8_2 p313 q313
          cases e313
          replace hx313_0 := (HB.out.cell (World.block_lt_of_cell? w _ hx313_0)).trans hx313_0
          replace p313 := eq_true p313
          replace q313 := eq_true q313
          go_wp2_with (first | ((with_reducible refine qAp (f := 32) rfl ?_); refine goesL_ (some 39) rfl rfl Tryd.func32 (by kernel_rfl) rfl #[.int .i64 (rd l1 x8_2), .int .i64 1000] rfl (by (try simp only [List.map_toArray, List.map_cons, List.map_nil]); first | done | rfl | (simp only [List.length_drop, List.length_take]; rfl)) ?_; (with_reducible refine (hogsheadlaw0_Low.calls (rd l1 x8_2) 1000 t314 _ A12.out).mono ?_); rintro e w' ⟨rfl, ⟨nd, rfl⟩⟩; refine ⟨_, rfl, ?_⟩) | ((with_reducible refine qBa (b := .append) (xs := #[.tmp 34, .tmp 41]) rfl ?_); (try (refine qBl (by rfl) ?_; dsimp only)); at_builtin; refine Kd.N_append k25 (w0 := w) w.heap.size rfl (.tmp 34) (.tmp 41) 22 25 (.agg #[(.int .i64 0), (.bool false), (.int .i64 0), (.string ⟨#[]⟩), (.slice none 0 0), (.slice none 0 0)]) 88 rfl Tryd.underlying22 info25 rfl (by decide) (by omega) u5 x5_2 (⟨2, false, t314, (⟨#[]⟩ : ByteArray), ([] : List (S25)), ([] : List ByteArray)⟩ : S25) [.int .i64 2, .bool false, .int .i64 t314, .string (⟨#[]⟩ : ByteArray), .slice none 0 0, .slice none 0 0] (fun _ => True) (fun k_ => ((fun _ => True)) k_ ∧ some k_ ≠ (u5 : Value).ownBlock) rfl rfl ?aP (fun _ hk => hk) ?aF ?aO ?aB ?aS ?aL ?_; (case aP => exact (qG1 _ _ (⟨2, false, t314, (⟨#[]⟩ : ByteArray), ([] : List (S25)), ([] : List ByteArray)⟩ : S25) (Nat.le_refl _) (Kd.F_nil _ _ _) (Nat.le_refl _) (Kd.F_nil _ _ _))); (case aB => exact (by repeat (first | (with_reducible first | exact HB.out | apply qAd | apply qAc | apply qAe) | exact HB.out))); (case aF => exact (fun _ _ => trivial)); (case aO => exact (by (with_reducible repeat (first | apply Kd.N_alloc | apply Kd.N_drewN | apply Kd.N_drew)); exact HO_5.out)); (case aS => exact (qAj (by repeat (first | (with_reducible first | exact HB.out | apply qAd | apply qAc | apply qAe) | exact HB.out)))); (case aL => have := LMc13.out; omega); intro v316 w14 ho hb hg hat; rw [← Ny315.out] at ho; have n0_ := Aside0.mk (hb); have n1_ := Aside0.mk (ho); clear HB; clear HO_5; have HB := n0_; have HO317 := n1_; clear n0_ n1_; clear ho hb hg hat))
          go_roundg k2
          case measure => have := HJ2.out; have := HK2.out; omega
          case rel => exact ⟨(y315), (wrap64 (x8_2 + 1)), (by first | rfl | (simp; done) | (simp [*]; done) | exact congrArg Value.bool (nil_ne _) | exact congrArg Value.bool (nil_eq _) | exact congrArg Value.bool (nil_ne' _)), H', ⟨by have := HJ2.out; have := HK2.out; omega⟩, ⟨by (with_reducible repeat (first | apply Kd.N_alloc | apply Kd.N_drewN | apply Kd.N_drew)); exact HO317.out⟩, ⟨by repeat (first | (with_reducible first | exact HB.out | apply qAd | apply qAc | apply qAe) | exact HB.out)⟩⟩
         ·rw [if_neg c13] at H
          exact absurd H (by simp)
        ·rw [if_neg c11] at H
         exact absurd H (by simp)
       ·rw [if_neg c10] at H
        exact absurd H (by simp)
      ·rw [if_neg c9] at H
       have c9b0 : decide (x8_2 < (l0.length : Int)) = false := decide_eq_false c9
       clear c9
       have H' := Aside0.mk H
       clear H
       go_wp2
       go_loopg [6, 7, 9, 10] k2 (fun kq v6 v7 v9 v10 w' => ∃ (x6_3 : List (S25)) (x7_3 : List ByteArray) (x9_3 : Bool) (x10_3 : Int), v9 = .bool x9_3 ∧ v10 = .int .i64 x10_3 ∧ Aside0 (hogsheadlaw15_ValueKeys.l1 kq l0 x5_2 x6_3 x7_3 x9_3 x10_3 = some r) ∧ Aside0 (kq ≤ k2) ∧ Aside0 (Kd.N k25 25 w' w.heap.size (fun k_ => some k_ ≠ (v6 : Value).ownBlock ∧ some k_ ≠ (v7 : Value).ownBlock) u5 x5_2) ∧ Aside0 (Kd.N k25 25 w' w.heap.size (fun k_ => some k_ ≠ (u5 : Value).ownBlock ∧ some k_ ≠ (v7 : Value).ownBlock) v6 x6_3) ∧ Aside0 (Kd.R Kd.string 9 w' w.heap.size (fun _ => True) v7 x7_3) ∧ Aside0 (Below w.heap.size w w'))
       case atStart => exact ⟨(([] : List (S25))), (([] : List ByteArray)), (true), (wrap64 ((l0.length : Int) - 1)), (by first | rfl | (simp; done) | (simp [*]; done) | exact congrArg Value.bool (nil_ne _) | exact congrArg Value.bool (nil_eq _) | exact congrArg Value.bool (nil_ne' _)), (by first | rfl | (simp; done) | (simp [*]; done) | exact congrArg Value.bool (nil_ne _) | exact congrArg Value.bool (nil_eq _) | exact congrArg Value.bool (nil_ne' _)), H', ⟨Nat.le_refl _⟩, ⟨by (with_reducible repeat (first | apply Kd.N_alloc | apply Kd.N_drewN | apply Kd.N_drew)); exact Kd.N_mono HO_5.out (fun _ hk => ⟨(by simp [Value.ownBlock]), (by simp [Value.ownBlock])⟩)⟩, ⟨by first | exact Kd.R_nil _ _ _ _ _ | exact Kd.N_nil _ _ _ _ _ | exact Kd.V_nil _ _ _ _ _ | exact Kd.Q_nil _ _ _ _ _ | exact Kd.S_nil _ _ _ _ _⟩, ⟨by first | exact Kd.R_nil _ _ _ _ _ | exact Kd.N_nil _ _ _ _ _ | exact Kd.V_nil _ _ _ _ _ | exact Kd.Q_nil _ _ _ _ _ | exact Kd.S_nil _ _ _ _ _⟩, ⟨by repeat (first | (with_reducible first | exact HB.out | apply qAd | apply qAc | apply qAe) | exact HB.out)⟩⟩
       case round =>
        clear H'
        try clear c1
        try clear c2
        try clear p2
        try clear c3
        try clear p3
        try clear q3
        try clear hx3
        try clear c5
        try clear c6
        try clear p6
        try clear c9
        try clear c9b0
        try clear c10
        try clear c10b0
        try clear c11
        try clear c11b0
        try clear c13
        try clear hx313_0
        try clear p2
        try clear p313
        try clear q313
        obtain ⟨x6_3, x7_3, x9_3, x10_3, rfl, rfl, HA, HK3, HO_5, HO_6, HO_7, HB⟩ := hrel
        cases gk with
        | zero => exact absurd HA.out (by simp [hogsheadlaw15_ValueKeys.l1])
        | succ k3 =>
         have H := HA.out
         clear HA
         simp only [hogsheadlaw15_ValueKeys.l1] at H
         by_cases c15 : x10_3 ≥ 0
         ·rw [if_pos c15] at H
          have c15b0 : decide (0 ≤ x10_3) = true := decide_eq_true c15
          clear c15
          by_cases c16 : 0 ≤ x10_3
          ·rw [if_pos c16] at H
           have c16b0 : decide (0 ≤ x10_3) = true := decide_eq_true c16
           clear c16
           by_cases c17 : x10_3 < (l0.length : Int)
           ·rw [if_pos c17] at H
            have c17b0 : decide (x10_3 < (l0.length : Int)) = true := decide_eq_true c17
            clear c17
            by_cases c18 : x7_3.length < 8796093022208
            ·rw [if_pos c18] at H
             have LMc18 := Aside0.mk c18
             clear c18
             obtain ⟨y319, hy319⟩ : ∃ y_ : List ByteArray, y_ = (x7_3 ++ [rdOf ByteArray.empty l0 x10_3]) := ⟨_, rfl⟩
             replace H : (if x10_3 < (x5_2.length : Int) then (if x6_3.length < 1599289640401 then (hogsheadlaw15_ValueKeys.l2 k3 l0 x5_2 (x6_3 ++ [(⟨(rd_T25 x5_2 x10_3).f0, (rd_T25 x5_2 x10_3).f1, (rd_T25 x5_2 x10_3).f2, (rd_T25 x5_2 x10_3).f3, (rd_T25 x5_2 x10_3).f4, (rd_T25 x5_2 x10_3).f5⟩ : S25)]) y319 x9_3 x10_3 0) else (none)) else (none)) = some r := by first | (rw [hy319]; with_reducible exact H) | (have H2_ := (Option.bind_some _ _).symm.trans H; rw [hy319]; with_reducible exact H2_) | (have H2_ := (Option.bind_some _ _).symm.trans H; with_reducible exact H2_) | with_reducible exact H | (rw [hy319]; exact H) | exact H
             have Ny319 := Aside0.mk hy319
             clear hy319
             by_cases c19 : x10_3 < (x5_2.length : Int)
             ·rw [if_pos c19] at H
              have c19b0 : decide (x10_3 < (x5_2.length : Int)) = true := decide_eq_true c19
              clear c19
              by_cases c20 : x6_3.length < 1599289640401
              ·rw [if_pos c20] at H
               have LMc20 := Aside0.mk c20
               clear c20
               obtain ⟨y323, hy323⟩ : ∃ y_ : List (S25), y_ = (x6_3 ++ [(⟨(rd_T25 x5_2 x10_3).f0, (rd_T25 x5_2 x10_3).f1, (rd_T25 x5_2 x10_3).f2, (rd_T25 x5_2 x10_3).f3, (rd_T25 x5_2 x10_3).f4, (rd_T25 x5_2 x10_3).f5⟩ : S25)]) := ⟨_, rfl⟩
               replace H : (hogsheadlaw15_ValueKeys.l2 k3 l0 x5_2 y323 y319 x9_3 x10_3 0) = some r := by first | (rw [hy323]; with_reducible exact H) | (have H2_ := (Option.bind_some _ _).symm.trans H; rw [hy323]; with_reducible exact H2_) | (have H2_ := (Option.bind_some _ _).symm.trans H; with_reducible exact H2_) | with_reducible exact H | (rw [hy323]; exact H) | exact H
               have Ny323 := Aside0.mk hy323
               clear hy323
               have H' := Aside0.mk H
               clear H
               have p318 : 0 ≤ (x10_3 : Int) := of_decide_eq_true (by first | (with_reducible assumption) | assumption)
               have q318 : x10_3 < (l0.length : Int) := of_decide_eq_true (by first | (with_reducible assumption) | assumption)
               obtain ⟨ad318, e318, hx318_0⟩ := Kd.at_string HR0.out x10_3 p318 q318
               cases e318
               replace hx318_0 := (HB.out.cell (World.block_lt_of_cell? w _ hx318_0)).trans hx318_0
               replace p318 := eq_true p318
               replace q318 := eq_true q318
               go_wp2_with (first | ((with_reducible refine qBa (b := .append) (xs := #[.tmp 50, .tmp 55]) rfl ?_); (try (refine qBl (by rfl) ?_; dsimp only)); at_builtin; refine Kd.R_append Kd.string (w0 := w) w.heap.size rfl (.tmp 50) (.tmp 55) 23 9 (.string ⟨#[]⟩) 16 rfl Tryd.underlying23 info9 rfl (by decide) (by omega) u7 x7_3 (rdOf ByteArray.empty l0 x10_3) [.string (rdOf ByteArray.empty l0 x10_3)] (fun _ => True) (fun _ => False) rfl rfl ?aP (fun _ hk => hk.elim) ?aF ?aO ?aB ?aS ?aL ?_; (case aP => exact rfl); (case aB => exact (by repeat (first | (with_reducible first | exact HB.out | apply qAd | apply qAc | apply qAe) | exact HB.out))); (case aF => exact (fun _ _ => trivial)); (case aO => exact (by (with_reducible repeat (first | apply Kd.R_alloc | apply Kd.R_drewN | apply Kd.R_drew)); exact HO_7.out)); (case aS => exact (qAj (by repeat (first | (with_reducible first | exact HB.out | apply qAd | apply qAc | apply qAe) | exact HB.out)))); (case aL => have := LMc18.out; omega); intro v320 w21 ho hb hg hat; rw [← Ny319.out] at ho; have n0_ := Aside0.mk (Kd.N_afterv (ok := (fun k_ => some k_ ≠ (u6 : Value).ownBlock)) (by (with_reducible repeat (first | apply Kd.N_alloc | apply Kd.N_drewN | apply Kd.N_drew)); exact HO_5.out) hg hat); have n1_ := Aside0.mk (Kd.N_afterv (ok := (fun k_ => some k_ ≠ (u5 : Value).ownBlock)) (by (with_reducible repeat (first | apply Kd.N_alloc | apply Kd.N_drewN | apply Kd.N_drew)); exact HO_6.out) hg hat); have n2_ := Aside0.mk (hb); have n3_ := Aside0.mk (ho); clear HO_5; clear HO_6; clear HB; clear HO_7; have HO_5 := n0_; have HO_6 := n1_; have HB := n2_; have HO321 := n3_; clear n0_ n1_ n2_ n3_; clear ho hb hg hat; obtain ⟨Ao22, co22, eo22⟩ := Kd.N_slice HO_5.out; subst eo22; have p322 : 0 ≤ (x10_3 : Int) := of_decide_eq_true (by first | (with_reducible assumption) | assumption); have q322 : x10_3 < (x5_2.length : Int) := of_decide_eq_true (by first | (with_reducible assumption) | assumption); obtain ⟨ad322, A322_4, c322_4, A322_5, c322_5, e322, hx322_0, hx322_1, hx322_2, hx322_3, hx322_4, hx322_5, hl322_4, hi322_4, hl322_5, hi322_5⟩ := at_T25 (Kd.N_reads' HO_5.out).2.2 x10_3 p322 q322; cases e322; obtain ⟨ce322, hce322, hMe322, hcc322⟩ := Kd.N_get HO_5.out z25 x10_3 p322 (by first | exact q322 | exact of_decide_eq_true (by first | (with_reducible assumption) | assumption) | (have e_ := (Kd.N_reads' HO_5.out).1; omega)); obtain ⟨ua322_4, uc322_4, ua322_5, uc322_5, rfl, ul322_4, ge322_4, ul322_5, ge322_5⟩ := qEr hMe322; have hv322_4 := hcc322 4 _ rfl; rw [qBj _ _ 4 (by omega)] at hv322_4; replace hv322_4 := Option.some.inj (hv322_4.symm.trans hx322_4); injection hv322_4 with hva_ hvn_ hvc_; rw [hva_] at ge322_4; rw [hvc_] at ul322_4; have HL322_4 := Aside0.mk (show Kd.V k25 25 _ w.heap.size _ _ ((rd_T25 x5_2 x10_3).f4) from Kd.V_mk ul322_4 ge322_4); clear hva_ hvn_ hvc_ ge322_4 ul322_4; have hv322_5 := hcc322 5 _ rfl; rw [qBj _ _ 5 (by omega)] at hv322_5; replace hv322_5 := Option.some.inj (hv322_5.symm.trans hx322_5); injection hv322_5 with hva_ hvn_ hvc_; rw [hva_] at ge322_5; rw [hvc_] at ul322_5; have HL322_5 := Aside0.mk (show Kd.V Kd.string 9 _ w.heap.size _ _ ((rd_T25 x5_2 x10_3).f5) from Kd.V_mk ul322_5 ge322_5); clear hva_ hvn_ hvc_ ge322_5 ul322_5; clear hcc322 hce322; have HR322_4 := Aside0.mk hi322_4; have HC322_4 := Aside0.mk hl322_4; clear hi322_4 hl322_4; have HR322_5 := Aside0.mk hi322_5; have HC322_5 := Aside0.mk hl322_5; clear hi322_5 hl322_5; replace p322 := eq_true p322; replace q322 := eq_true q322) | ((with_reducible refine qBa (b := .append) (xs := #[.tmp 57, .tmp 62]) rfl ?_); (try (refine qBl (by rfl) ?_; dsimp only)); at_builtin; refine Kd.N_append k25 (w0 := w) w.heap.size rfl (.tmp 57) (.tmp 62) 22 25 (.agg #[(.int .i64 0), (.bool false), (.int .i64 0), (.string ⟨#[]⟩), (.slice none 0 0), (.slice none 0 0)]) 88 rfl Tryd.underlying22 info25 rfl (by decide) (by omega) u6 x6_3 (⟨(rd_T25 x5_2 x10_3).f0, (rd_T25 x5_2 x10_3).f1, (rd_T25 x5_2 x10_3).f2, (rd_T25 x5_2 x10_3).f3, (rd_T25 x5_2 x10_3).f4, (rd_T25 x5_2 x10_3).f5⟩ : S25) [.int .i64 ((rd_T25 x5_2 x10_3).f0), .bool ((rd_T25 x5_2 x10_3).f1), .int .i64 ((rd_T25 x5_2 x10_3).f2), .string ((rd_T25 x5_2 x10_3).f3), .slice A322_4 ((rd_T25 x5_2 x10_3).f4).length c322_4, .slice A322_5 ((rd_T25 x5_2 x10_3).f5).length c322_5] (fun k_ => some k_ ≠ (.slice (some ad322) x5_2.length co22 : Value).ownBlock ∧ some k_ ≠ (v320 : Value).ownBlock) (fun k_ => ((fun k_ => some k_ ≠ (.slice (some ad322) x5_2.length co22 : Value).ownBlock ∧ some k_ ≠ (v320 : Value).ownBlock)) k_ ∧ some k_ ≠ (u6 : Value).ownBlock) rfl rfl ?aP (fun _ hk => hk) ?aF ?aO ?aB ?aS ?aL ?_; (case aP => exact (qG1 _ _ (⟨(rd_T25 x5_2 x10_3).f0, (rd_T25 x5_2 x10_3).f1, (rd_T25 x5_2 x10_3).f2, (rd_T25 x5_2 x10_3).f3, (rd_T25 x5_2 x10_3).f4, (rd_T25 x5_2 x10_3).f5⟩ : S25) (Kd.V_reads' (Kd.V_mono (ok' := (fun k_ => ((fun k_ => some k_ ≠ (.slice (some ad322) x5_2.length co22 : Value).ownBlock ∧ some k_ ≠ (v320 : Value).ownBlock)) k_ ∧ some k_ ≠ (u6 : Value).ownBlock)) (HL322_4.out) (fun k_ hk => ⟨⟨hk.2, hk.1.2⟩, hk.1.1⟩))).2.1 (Kd.V_F (Kd.V_mono (ok' := (fun k_ => ((fun k_ => some k_ ≠ (.slice (some ad322) x5_2.length co22 : Value).ownBlock ∧ some k_ ≠ (v320 : Value).ownBlock)) k_ ∧ some k_ ≠ (u6 : Value).ownBlock)) (HL322_4.out) (fun k_ hk => ⟨⟨hk.2, hk.1.2⟩, hk.1.1⟩))) (Kd.V_reads' (Kd.V_mono (ok' := (fun k_ => ((fun k_ => some k_ ≠ (.slice (some ad322) x5_2.length co22 : Value).ownBlock ∧ some k_ ≠ (v320 : Value).ownBlock)) k_ ∧ some k_ ≠ (u6 : Value).ownBlock)) (HL322_5.out) (fun k_ hk => ⟨⟨hk.2, hk.1.2⟩, hk.1.1⟩))).2.1 (Kd.V_F (Kd.V_mono (ok' := (fun k_ => ((fun k_ => some k_ ≠ (.slice (some ad322) x5_2.length co22 : Value).ownBlock ∧ some k_ ≠ (v320 : Value).ownBlock)) k_ ∧ some k_ ≠ (u6 : Value).ownBlock)) (HL322_5.out) (fun k_ hk => ⟨⟨hk.2, hk.1.2⟩, hk.1.1⟩))))); (case aB => exact (by repeat (first | (with_reducible first | exact HB.out | apply qAd | apply qAc | apply qAe) | exact HB.out))); (case aF => exact (fun k_ hk => ⟨Kd.fresh' (Kd.N_lt (by (with_reducible repeat (first | apply Kd.N_alloc | apply Kd.N_drewN | apply Kd.N_drew)); exact HO_5.out)) k_ hk, Kd.fresh' (Kd.R_lt (by (with_reducible repeat (first | apply Kd.R_alloc | apply Kd.R_drewN | apply Kd.R_drew)); exact HO321.out)) k_ hk⟩)); (case aO => exact (by (with_reducible repeat (first | apply Kd.N_alloc | apply Kd.N_drewN | apply Kd.N_drew)); exact HO_6.out)); (case aS => exact (qAj (by repeat (first | (with_reducible first | exact HB.out | apply qAd | apply qAc | apply qAe) | exact HB.out)))); (case aL => have := LMc20.out; omega); intro v324 w23 ho hb hg hat; rw [← Ny323.out] at ho; have n0_ := Aside0.mk (Kd.N_afterv (ok := (fun k_ => some k_ ≠ (v320 : Value).ownBlock)) (by (with_reducible repeat (first | apply Kd.N_alloc | apply Kd.N_drewN | apply Kd.N_drew)); exact Kd.N_mono HO_5.out (fun _ hk => ⟨hk.2, hk.1⟩)) hg hat); have n1_ := Aside0.mk (Kd.R_over' (by (with_reducible repeat (first | apply Kd.R_alloc | apply Kd.R_drewN | apply Kd.R_drew)); exact HO321.out) (Kd.N_typed (by (with_reducible repeat (first | apply Kd.N_alloc | apply Kd.N_drewN | apply Kd.N_drew)); exact HO_6.out)) (by decide) hg); have n2_ := Aside0.mk (Kd.V_afterv (ok := (fun k_ => some k_ ≠ (.slice (some ad322) x5_2.length co22 : Value).ownBlock ∧ some k_ ≠ (v320 : Value).ownBlock)) (by (with_reducible repeat (first | apply Kd.V_alloc | apply Kd.V_drewN | apply Kd.V_drew)); exact Kd.V_mono HL322_4.out (fun _ hk => ⟨⟨hk.2, hk.1.2⟩, hk.1.1⟩)) hg hat); have n3_ := Aside0.mk (Kd.V_afterv (ok := (fun k_ => some k_ ≠ (.slice (some ad322) x5_2.length co22 : Value).ownBlock ∧ some k_ ≠ (v320 : Value).ownBlock)) (by (with_reducible repeat (first | apply Kd.V_alloc | apply Kd.V_drewN | apply Kd.V_drew)); exact Kd.V_mono HL322_5.out (fun _ hk => ⟨⟨hk.2, hk.1.2⟩, hk.1.1⟩)) hg hat); have n4_ := Aside0.mk (hb); have n5_ := Aside0.mk (ho); clear HO_5; clear HO321; clear HL322_4; clear HL322_5; clear HB; clear HO_6; have HO_5 := n0_; have HO321 := n1_; have HL322_4 := n2_; have HL322_5 := n3_; have HB := n4_; have HO325 := n5_; clear n0_ n1_ n2_ n3_ n4_ n5_; clear ho hb hg hat))
               go_loopg [9, 11] k3 (fun kq v9 v11 w' => ∃ (x9_4 : Bool) (x11_4 : Int), v9 = .bool x9_4 ∧ v11 = .int .i64 x11_4 ∧ Aside0 (hogsheadlaw15_ValueKeys.l2 kq l0 x5_2 y323 y319 x9_4 x10_3 x11_4 = some r) ∧ Aside0 (kq ≤ k3) ∧ Aside0 (Kd.N k25 25 w' w.heap.size (fun k_ => some k_ ≠ (v324 : Value).ownBlock ∧ some k_ ≠ (v320 : Value).ownBlock) (.slice (some ad322) x5_2.length co22) x5_2) ∧ Aside0 (Kd.N k25 25 w' w.heap.size (fun k_ => some k_ ≠ ((.slice (some ad322) x5_2.length co22) : Value).ownBlock ∧ some k_ ≠ (v320 : Value).ownBlock) v324 y323) ∧ Aside0 (Kd.R Kd.string 9 w' w.heap.size (fun _ => True) v320 y319) ∧ Aside0 (Below w.heap.size w w'))
               case atStart => exact ⟨(x9_3), (0), (by first | rfl | (simp; done) | (simp [*]; done) | exact congrArg Value.bool (nil_ne _) | exact congrArg Value.bool (nil_eq _) | exact congrArg Value.bool (nil_ne' _)), (by first | rfl | (simp; done) | (simp [*]; done) | exact congrArg Value.bool (nil_ne _) | exact congrArg Value.bool (nil_eq _) | exact congrArg Value.bool (nil_ne' _)), H', ⟨Nat.le_refl _⟩, ⟨by (with_reducible repeat (first | apply Kd.N_alloc | apply Kd.N_drewN | apply Kd.N_drew)); exact Kd.N_mono HO_5.out (fun _ hk => ⟨hk.2, hk.1⟩)⟩, ⟨by (with_reducible repeat (first | apply Kd.N_alloc | apply Kd.N_drewN | apply Kd.N_drew)); exact HO325.out⟩, ⟨by (with_reducible repeat (first | apply Kd.R_alloc | apply Kd.R_drewN | apply Kd.R_drew)); exact HO321.out⟩, ⟨by repeat (first | (with_reducible first | exact HB.out | apply qAd | apply qAc | apply qAe) | exact HB.out)⟩⟩
               case round =>
                clear H'
                try clear c1
                try clear c2
                try clear p2
                try clear c3
                try clear p3
                try clear q3
                try clear hx3
                try clear c5
                try clear c6
                try clear p6
                try clear c9
                try clear c9b0
                try clear c10
                try clear c10b0
                try clear c11
                try clear c11b0
                try clear c13
                try clear c15
                try clear c15b0
                try clear c16
                try clear c16b0
                try clear c17
                try clear c17b0
                try clear c18
                try clear c19
                try clear c19b0
                try clear c20
                try clear hx313_0
                try clear hx318_0
                try clear hx322_0
                try clear hx322_1
                try clear hx322_2
                try clear hx322_3
                try clear hx322_4
                try clear hx322_5
                try clear p2
                try clear p3
                try clear p313
                try clear p318
                try clear p322
                try clear p6
                try clear q3
                try clear q313
                try clear q318
                try clear q322
                obtain ⟨x9_4, x11_4, rfl, rfl, HA, HK4, HO_5, HO_6, HO_7, HB⟩ := hrel
                cases gk with
                | zero => exact absurd HA.out (by simp [hogsheadlaw15_ValueKeys.l2])
                | succ k4 =>
                 have H := HA.out
                 clear HA
                 simp only [hogsheadlaw15_ValueKeys.l2] at H
                 by_cases c24 : x11_4 < x10_3
                 ·rw [if_pos c24] at H
                  have c24b0 : decide (x11_4 < x10_3) = true := decide_eq_true c24
                  clear c24
                  by_cases c25 : x9_4 = true
                  ·subst c25
                   have H1 : (if 0 ≤ x11_4 then (if x11_4 < (l0.length : Int) then (if 0 ≤ x10_3 then (if x10_3 < (l0.length : Int) then (hogsheadlaw15_ValueKeys.l2 k4 l0 x5_2 y323 y319 ((rdOf ByteArray.empty l0 x11_4).toList != (rdOf ByteArray.empty l0 x10_3).toList) x10_3 (wrap64 (x11_4 + 1))) else (none)) else (none)) else (none)) else (none)) = some r := by rw [if_pos rfl] at H; exact H
                   clear H
                   have H := H1
                   clear H1
                   by_cases c26 : 0 ≤ x11_4
                   ·rw [if_pos c26] at H
                    have c26b0 : decide (0 ≤ x11_4) = true := decide_eq_true c26
                    clear c26
                    by_cases c27 : x11_4 < (l0.length : Int)
                    ·rw [if_pos c27] at H
                     have c27b0 : decide (x11_4 < (l0.length : Int)) = true := decide_eq_true c27
                     clear c27
                     by_cases c28 : 0 ≤ x10_3
                     ·rw [if_pos c28] at H
                      have c28b0 : decide (0 ≤ x10_3) = true := decide_eq_true c28
                      clear c28
                      by_cases c29 : x10_3 < (l0.length : Int)
                      ·rw [if_pos c29] at H
                       have c29b0 : decide (x10_3 < (l0.length : Int)) = true := decide_eq_true c29
                       clear c29
                       have H' := Aside0.mk H
                       clear H
                       try go_wp2
                       have n0_ := Aside0.mk (Kd.N_drew HO_5.out)
                       have n1_ := Aside0.mk (Kd.N_drew HO_6.out)
                       have n2_ := Aside0.mk (Kd.R_drew HO_7.out)
                       have n3_ := Aside0.mk (qAe HB.out)
                       clear HO_5
                       clear HO_6
                       clear HO_7
                       clear HB
                       have HO_5 := n0_
                       have HO_6 := n1_
                       have HO_7 := n2_
                       have HB := n3_
                       clear n0_ n1_ n2_ n3_
                       have p326 : 0 ≤ (x11_4 : Int) := of_decide_eq_true (by first | (with_reducible assumption) | assumption)
                       have q326 : x11_4 < (l0.length : Int) := of_decide_eq_true (by first | (with_reducible assumption) | assumption)
                       obtain ⟨ad326, e326, hx326_0⟩ := Kd.at_string HR0.out x11_4 p326 q326
                       have hw326_0 := hx326_0
                       obtain rfl : ad318 = ad326 := (by injection e326)
                       replace hx326_0 := (HB.out.cell (World.block_lt_of_cell? w _ hx326_0)).trans hx326_0
                       replace p326 := eq_true p326
                       replace q326 := eq_true q326
                       have p327 : 0 ≤ (x10_3 : Int) := of_decide_eq_true (by first | (with_reducible assumption) | assumption)
                       have q327 : x10_3 < (l0.length : Int) := of_decide_eq_true (by first | (with_reducible assumption) | assumption)
                       obtain ⟨ad327, e327, hx327_0⟩ := Kd.at_string HR0.out x10_3 p327 q327
                       have hw327_0 := hx327_0
                       obtain rfl : ad318 = ad327 := (by injection e327)
                       replace hx327_0 := (HB.out.cell (World.block_lt_of_cell? w _ hx327_0)).trans hx327_0
                       replace p327 := eq_true p327
                       replace q327 := eq_true q327
                       refine start_ (n := 13) (S := fun w' => w'.cell? (ad318.add (x11_4).toNat) = some (.string (rdOf ByteArray.empty l0 x11_4)) ∧ w'.cell? (ad318.add (x10_3).toNat) = some (.string (rdOf ByteArray.empty l0 x10_3))) (ds := []) #[false, false, false, false, false, false, false, false, false, false, false, false, false] (by kernel_rfl) rfl rfl ⟨((HB.out.cell (World.block_lt_of_cell? w _ hw326_0)).trans hw326_0), ((HB.out.cell (World.block_lt_of_cell? w _ hw327_0)).trans hw327_0)⟩ (fun hHeld => ?_); refine qA8 hogsheadlaw15_ValueKeys.tab18 hogsheadlaw15_ValueKeys.bits18 (fun HT_ HW_ => ?_)
                       generalize wr.drew = w30 at HO_5 HO_6 HO_7 HB hx326_0 hx327_0 hHeld ⊢
                       refine pure_ (i := 0) (N := some 69) (v := ?_) (a' := ?_) (hogsheadlaw15_ValueKeys.bm 13 1) rfl rfl (any_of HT_.out (by kernel_rfl)) (fun _ _ _ h => h) (Or.inl ⟨by rfl, ?_⟩) ?_ ?_
                       rotate_left
                       ·intro w'
                        go_simp
                        with_reducible rfl
                       rotate_left
                       ·simp only [Act.put, List.setIfInBounds_toArray, List.set_cons_zero, List.set_cons_succ, i64_w, i32_w]
                        rfl
                       refine pure_ (i := 1) (N := some 70) (v := ?_) (a' := ?_) (hogsheadlaw15_ValueKeys.bm 13 3) rfl rfl (any_of HT_.out (by kernel_rfl)) (fun _ _ _ h => h) (Or.inl ⟨by rfl, ?_⟩) ?_ ?_
                       rotate_left
                       ·intro w'
                        go_simp
                        with_reducible rfl
                       rotate_left
                       ·simp only [Act.put, List.setIfInBounds_toArray, List.set_cons_zero, List.set_cons_succ, i64_w, i32_w]
                        rfl
                       refine pure_ (i := 2) (N := some 71) (v := ?_) (a' := ?_) (hogsheadlaw15_ValueKeys.bm 13 7) rfl rfl (any_of HT_.out (by kernel_rfl)) (fun _ _ _ h => h) (Or.inl ⟨by rfl, ?_⟩) ?_ ?_
                       rotate_left
                       ·intro w'
                        go_simp
                        with_reducible rfl
                       rotate_left
                       ·simp only [Act.put, List.setIfInBounds_toArray, List.set_cons_zero, List.set_cons_succ, i64_w, i32_w]
                        rfl
                       refine pure_ (i := 3) (N := some 72) (v := ?_) (a' := ?_) (hogsheadlaw15_ValueKeys.bm 13 15) rfl rfl (any_of HT_.out (by kernel_rfl)) (fun _ _ _ h => h) (Or.inl ⟨by rfl, ?_⟩) ?_ ?_
                       rotate_left
                       ·intro w'
                        go_simp
                        with_reducible rfl
                       rotate_left
                       ·simp only [Act.put, List.setIfInBounds_toArray, List.set_cons_zero, List.set_cons_succ, i64_w, i32_w]
                        rfl
                       refine pure_ (i := 4) (N := some 73) (v := ?_) (a' := ?_) (hogsheadlaw15_ValueKeys.bm 13 31) rfl rfl (any_of HT_.out (by kernel_rfl)) (fun _ _ _ h => h) (Or.inl ⟨by rfl, ?_⟩) ?_ ?_
                       rotate_left
                       ·intro w'
                        go_simp
                        with_reducible rfl
                       rotate_left
                       ·simp only [Act.put, List.setIfInBounds_toArray, List.set_cons_zero, List.set_cons_succ, i64_w, i32_w]
                        rfl
                       refine pure_ (i := 6) (N := some 75) (v := ?_) (a' := ?_) (hogsheadlaw15_ValueKeys.bm 13 95) rfl rfl (any_of HT_.out (by kernel_rfl)) (fun _ _ _ h => h) (Or.inl ⟨by rfl, ?_⟩) ?_ ?_
                       rotate_left
                       ·intro w'
                        go_simp
                        with_reducible rfl
                       rotate_left
                       ·simp only [Act.put, List.setIfInBounds_toArray, List.set_cons_zero, List.set_cons_succ, i64_w, i32_w]
                        rfl
                       refine pure_ (i := 7) (N := some 76) (v := ?_) (a' := ?_) (hogsheadlaw15_ValueKeys.bm 13 223) rfl rfl (any_of HT_.out (by kernel_rfl)) (fun _ _ _ h => h) (Or.inl ⟨by rfl, ?_⟩) ?_ ?_
                       rotate_left
                       ·intro w'
                        go_simp
                        with_reducible rfl
                       rotate_left
                       ·simp only [Act.put, List.setIfInBounds_toArray, List.set_cons_zero, List.set_cons_succ, i64_w, i32_w]
                        rfl
                       refine pure_ (i := 8) (N := some 77) (v := ?_) (a' := ?_) (hogsheadlaw15_ValueKeys.bm 13 479) rfl rfl (any_of HT_.out (by kernel_rfl)) (fun _ _ _ h => h) (Or.inl ⟨by rfl, ?_⟩) ?_ ?_
                       rotate_left
                       ·intro w'
                        go_simp
                        with_reducible rfl
                       rotate_left
                       ·simp only [Act.put, List.setIfInBounds_toArray, List.set_cons_zero, List.set_cons_succ, i64_w, i32_w]
                        rfl
                       refine take_ (i := 5) (N := some 74) (v := ?_) (a' := ?_) (hogsheadlaw15_ValueKeys.bm 13 511) rfl rfl (qAt HT_.out HW_.out (by kernel_rfl)) (fun _ _ _ h => h) (Or.inl ⟨by rfl, ?_⟩) hHeld ?_ ?_
                       rotate_left
                       ·rintro w' ⟨s0, s1⟩
                        go_simp
                        with_reducible rfl
                       rotate_left
                       ·simp only [Act.put, List.setIfInBounds_toArray, List.set_cons_zero, List.set_cons_succ, i64_w, i32_w]
                        rfl
                       refine take_ (i := 9) (N := some 78) (v := ?_) (a' := ?_) (hogsheadlaw15_ValueKeys.bm 13 1023) rfl rfl (qAt HT_.out HW_.out (by kernel_rfl)) (fun _ _ _ h => h) (Or.inl ⟨by rfl, ?_⟩) hHeld ?_ ?_
                       rotate_left
                       ·rintro w' ⟨s0, s1⟩
                        go_simp
                        with_reducible rfl
                       rotate_left
                       ·simp only [Act.put, List.setIfInBounds_toArray, List.set_cons_zero, List.set_cons_succ, i64_w, i32_w]
                        rfl
                       refine pure_ (i := 10) (N := some 79) (v := ?_) (a' := ?_) (hogsheadlaw15_ValueKeys.bm 13 2047) rfl rfl (any_of HT_.out (by kernel_rfl)) (fun _ _ _ h => h) (Or.inl ⟨by rfl, ?_⟩) ?_ ?_
                       rotate_left
                       ·intro w'
                        go_simp
                        with_reducible rfl
                       rotate_left
                       ·simp only [Act.put, List.setIfInBounds_toArray, List.set_cons_zero, List.set_cons_succ, i64_w, i32_w]
                        rfl
                       refine pure_ (i := 11) (N := some 80) (v := ?_) (a' := ?_) (hogsheadlaw15_ValueKeys.bm 13 4095) rfl rfl (any_of HT_.out (by kernel_rfl)) (fun _ _ _ h => h) (Or.inl ⟨by rfl, ?_⟩) ?_ ?_
                       rotate_left
                       ·intro w'
                        go_simp
                        with_reducible rfl
                       rotate_left
                       ·simp only [Act.put, List.setIfInBounds_toArray, List.set_cons_zero, List.set_cons_succ, i64_w, i32_w]
                        rfl
                       refine pure_ (i := 12) (N := some 9) (v := ?_) (a' := ?_) (hogsheadlaw15_ValueKeys.bm 13 8191) rfl rfl (any_of HT_.out (by kernel_rfl)) (fun _ _ _ h => h) (Or.inl ⟨by rfl, ?_⟩) ?_ ?_
                       rotate_left
                       ·intro w'
                        go_simp
                        with_reducible rfl
                       rotate_left
                       ·simp only [Act.put, List.setIfInBounds_toArray, List.set_cons_zero, List.set_cons_succ, i64_w, i32_w]
                        rfl
                       refine done_ (qBm HT_.out (by kernel_rfl)) ?_
                       try go_wp2
                       go_roundg k4
                       case measure => have := HJ2.out; have := HK2.out; have := HK3.out; have := HK4.out; omega
                       case rel => exact ⟨(((rdOf ByteArray.empty l0 x11_4).toList != (rdOf ByteArray.empty l0 x10_3).toList)), (wrap64 (x11_4 + 1)), (by first | rfl | (simp; done) | (simp [*]; done) | exact congrArg Value.bool (nil_ne _) | exact congrArg Value.bool (nil_eq _) | exact congrArg Value.bool (nil_ne' _)), (by first | rfl | (simp; done) | (simp [*]; done) | exact congrArg Value.bool (nil_ne _) | exact congrArg Value.bool (nil_eq _) | exact congrArg Value.bool (nil_ne' _)), H', ⟨by have := HJ2.out; have := HK2.out; have := HK3.out; have := HK4.out; omega⟩, ⟨by (with_reducible repeat (first | apply Kd.N_alloc | apply Kd.N_drewN | apply Kd.N_drew)); exact HO_5.out⟩, ⟨by (with_reducible repeat (first | apply Kd.N_alloc | apply Kd.N_drewN | apply Kd.N_drew)); exact HO_6.out⟩, ⟨by (with_reducible repeat (first | apply Kd.R_alloc | apply Kd.R_drewN | apply Kd.R_drew)); exact HO_7.out⟩, ⟨by repeat (first | (with_reducible first | exact HB.out | apply qAd | apply qAc | apply qAe) | exact HB.out)⟩⟩
                      ·rw [if_neg c29] at H
                       exact absurd H (by simp)
                     ·rw [if_neg c28] at H
                      exact absurd H (by simp)
                    ·rw [if_neg c27] at H
                     exact absurd H (by simp)
                   ·rw [if_neg c26] at H
                    exact absurd H (by simp)
                  ·replace c25 := Bool.eq_false_iff.mpr c25
                   subst c25
                   have H1 : (hogsheadlaw15_ValueKeys.l2 k4 l0 x5_2 y323 y319 false x10_3 (wrap64 (x11_4 + 1))) = some r := by rw [if_neg (show ¬ (false = true) by decide)] at H; exact H
                   clear H
                   have H := H1
                   clear H1
                   have H' := Aside0.mk H
                   clear H
                   try go_wp2
                   have n0_ := Aside0.mk (Kd.N_drew HO_5.out)
                   have n1_ := Aside0.mk (Kd.N_drew HO_6.out)
                   have n2_ := Aside0.mk (Kd.R_drew HO_7.out)
                   have n3_ := Aside0.mk (qAe HB.out)
                   clear HO_5
                   clear HO_6
                   clear HO_7
                   clear HB
                   have HO_5 := n0_
                   have HO_6 := n1_
                   have HO_7 := n2_
                   have HB := n3_
                   clear n0_ n1_ n2_ n3_
                   refine start_ (n := 13) (S := fun w' => True) (ds := []) #[false, false, false, false, false, false, false, false, false, false, false, false, false] (by kernel_rfl) rfl rfl trivial (fun hHeld => ?_); refine qA8 hogsheadlaw15_ValueKeys.tab18 hogsheadlaw15_ValueKeys.bits18 (fun HT_ HW_ => ?_)
                   generalize wr.drew = w31 at HO_5 HO_6 HO_7 HB hHeld ⊢
                   refine pure_ (i := 0) (N := some 69) (v := ?_) (a' := ?_) (hogsheadlaw15_ValueKeys.bm 13 1) rfl rfl (any_of HT_.out (by kernel_rfl)) (fun _ _ _ h => h) (Or.inl ⟨by rfl, ?_⟩) ?_ ?_
                   rotate_left
                   ·intro w'
                    go_simp
                    with_reducible rfl
                   rotate_left
                   ·simp only [Act.put, List.setIfInBounds_toArray, List.set_cons_zero, List.set_cons_succ, i64_w, i32_w]
                    rfl
                   refine pure_ (i := 1) (N := some 70) (v := ?_) (a' := ?_) (hogsheadlaw15_ValueKeys.bm 13 3) rfl rfl (any_of HT_.out (by kernel_rfl)) (fun _ _ _ h => h) (Or.inl ⟨by rfl, ?_⟩) ?_ ?_
                   rotate_left
                   ·intro w'
                    go_simp
                    with_reducible rfl
                   rotate_left
                   ·simp only [Act.put, List.setIfInBounds_toArray, List.set_cons_zero, List.set_cons_succ, i64_w, i32_w]
                    rfl
                   refine pure_ (i := 2) (N := some 71) (v := undef) (a' := ?_) (hogsheadlaw15_ValueKeys.bm 13 7) rfl rfl (any_of HT_.out (by kernel_rfl)) (fun _ _ _ h => h) (Or.inr ⟨by rfl, rfl⟩) ?_ ?_
                   rotate_left
                   ·simp only [Act.put, List.setIfInBounds_toArray, List.set_cons_zero, List.set_cons_succ, i64_w, i32_w]
                    rfl
                   refine pure_ (i := 3) (N := some 72) (v := undef) (a' := ?_) (hogsheadlaw15_ValueKeys.bm 13 15) rfl rfl (any_of HT_.out (by kernel_rfl)) (fun _ _ _ h => h) (Or.inr ⟨by rfl, rfl⟩) ?_ ?_
                   rotate_left
                   ·simp only [Act.put, List.setIfInBounds_toArray, List.set_cons_zero, List.set_cons_succ, i64_w, i32_w]
                    rfl
                   refine pure_ (i := 4) (N := some 73) (v := undef) (a' := ?_) (hogsheadlaw15_ValueKeys.bm 13 31) rfl rfl (any_of HT_.out (by kernel_rfl)) (fun _ _ _ h => h) (Or.inr ⟨by rfl, rfl⟩) ?_ ?_
                   rotate_left
                   ·simp only [Act.put, List.setIfInBounds_toArray, List.set_cons_zero, List.set_cons_succ, i64_w, i32_w]
                    rfl
                   refine pure_ (i := 5) (N := some 74) (v := undef) (a' := ?_) (hogsheadlaw15_ValueKeys.bm 13 63) rfl rfl (any_of HT_.out (by kernel_rfl)) (fun _ _ _ h => h) (Or.inr ⟨by rfl, rfl⟩) ?_ ?_
                   rotate_left
                   ·simp only [Act.put, List.setIfInBounds_toArray, List.set_cons_zero, List.set_cons_succ, i64_w, i32_w]
                    rfl
                   refine pure_ (i := 6) (N := some 75) (v := undef) (a' := ?_) (hogsheadlaw15_ValueKeys.bm 13 127) rfl rfl (any_of HT_.out (by kernel_rfl)) (fun _ _ _ h => h) (Or.inr ⟨by rfl, rfl⟩) ?_ ?_
                   rotate_left
                   ·simp only [Act.put, List.setIfInBounds_toArray, List.set_cons_zero, List.set_cons_succ, i64_w, i32_w]
                    rfl
                   refine pure_ (i := 7) (N := some 76) (v := undef) (a' := ?_) (hogsheadlaw15_ValueKeys.bm 13 255) rfl rfl (any_of HT_.out (by kernel_rfl)) (fun _ _ _ h => h) (Or.inr ⟨by rfl, rfl⟩) ?_ ?_
                   rotate_left
                   ·simp only [Act.put, List.setIfInBounds_toArray, List.set_cons_zero, List.set_cons_succ, i64_w, i32_w]
                    rfl
                   refine pure_ (i := 8) (N := some 77) (v := undef) (a' := ?_) (hogsheadlaw15_ValueKeys.bm 13 511) rfl rfl (any_of HT_.out (by kernel_rfl)) (fun _ _ _ h => h) (Or.inr ⟨by rfl, rfl⟩) ?_ ?_
                   rotate_left
                   ·simp only [Act.put, List.setIfInBounds_toArray, List.set_cons_zero, List.set_cons_succ, i64_w, i32_w]
                    rfl
                   refine pure_ (i := 9) (N := some 78) (v := undef) (a' := ?_) (hogsheadlaw15_ValueKeys.bm 13 1023) rfl rfl (any_of HT_.out (by kernel_rfl)) (fun _ _ _ h => h) (Or.inr ⟨by rfl, rfl⟩) ?_ ?_
                   rotate_left
                   ·simp only [Act.put, List.setIfInBounds_toArray, List.set_cons_zero, List.set_cons_succ, i64_w, i32_w]
                    rfl
                   refine pure_ (i := 10) (N := some 79) (v := undef) (a' := ?_) (hogsheadlaw15_ValueKeys.bm 13 2047) rfl rfl (any_of HT_.out (by kernel_rfl)) (fun _ _ _ h => h) (Or.inr ⟨by rfl, rfl⟩) ?_ ?_
                   rotate_left
                   ·simp only [Act.put, List.setIfInBounds_toArray, List.set_cons_zero, List.set_cons_succ, i64_w, i32_w]
                    rfl
                   refine pure_ (i := 11) (N := some 80) (v := ?_) (a' := ?_) (hogsheadlaw15_ValueKeys.bm 13 4095) rfl rfl (any_of HT_.out (by kernel_rfl)) (fun _ _ _ h => h) (Or.inl ⟨by rfl, ?_⟩) ?_ ?_
                   rotate_left
                   ·intro w'
                    go_simp
                    with_reducible rfl
                   rotate_left
                   ·simp only [Act.put, List.setIfInBounds_toArray, List.set_cons_zero, List.set_cons_succ, i64_w, i32_w]
                    rfl
                   refine pure_ (i := 12) (N := some 9) (v := ?_) (a' := ?_) (hogsheadlaw15_ValueKeys.bm 13 8191) rfl rfl (any_of HT_.out (by kernel_rfl)) (fun _ _ _ h => h) (Or.inl ⟨by rfl, ?_⟩) ?_ ?_
                   rotate_left
                   ·intro w'
                    go_simp
                    with_reducible rfl
                   rotate_left
                   ·simp only [Act.put, List.setIfInBounds_toArray, List.set_cons_zero, List.set_cons_succ, i64_w, i32_w]
                    rfl
                   refine done_ (qBm HT_.out (by kernel_rfl)) ?_
                   try go_wp2
                   go_roundg k4
                   case measure => have := HJ2.out; have := HK2.out; have := HK3.out; have := HK4.out; omega
                   case rel => exact ⟨(false), (wrap64 (x11_4 + 1)), (by first | rfl | (simp; done) | (simp [*]; done) | exact congrArg Value.bool (nil_ne _) | exact congrArg Value.bool (nil_eq _) | exact congrArg Value.bool (nil_ne' _)), (by first | rfl | (simp; done) | (simp [*]; done) | exact congrArg Value.bool (nil_ne _) | exact congrArg Value.bool (nil_eq _) | exact congrArg Value.bool (nil_ne' _)), H', ⟨by have := HJ2.out; have := HK2.out; have := HK3.out; have := HK4.out; omega⟩, ⟨by (with_reducible repeat (first | apply Kd.N_alloc | apply Kd.N_drewN | apply Kd.N_drew)); exact HO_5.out⟩, ⟨by (with_reducible repeat (first | apply Kd.N_alloc | apply Kd.N_drewN | apply Kd.N_drew)); exact HO_6.out⟩, ⟨by (with_reducible repeat (first | apply Kd.R_alloc | apply Kd.R_drewN | apply Kd.R_drew)); exact HO_7.out⟩, ⟨by repeat (first | (with_reducible first | exact HB.out | apply qAd | apply qAc | apply qAe) | exact HB.out)⟩⟩
                 ·rw [if_neg c24] at H
                  have c24b0 : decide (x11_4 < x10_3) = false := decide_eq_false c24
                  clear c24
                  have H' := Aside0.mk H
                  clear H
                  go_wp2
                  go_roundg k4
                  case measure => have := HJ2.out; have := HK2.out; have := HK3.out; have := HK4.out; omega
                  case rel => exact ⟨(y323), (y319), (x9_4), (wrap64 (x10_3 - 1)), (by first | rfl | (simp; done) | (simp [*]; done) | exact congrArg Value.bool (nil_ne _) | exact congrArg Value.bool (nil_eq _) | exact congrArg Value.bool (nil_ne' _)), (by first | rfl | (simp; done) | (simp [*]; done) | exact congrArg Value.bool (nil_ne _) | exact congrArg Value.bool (nil_eq _) | exact congrArg Value.bool (nil_ne' _)), H', ⟨by have := HJ2.out; have := HK2.out; have := HK3.out; have := HK4.out; omega⟩, ⟨by (with_reducible repeat (first | apply Kd.N_alloc | apply Kd.N_drewN | apply Kd.N_drew)); exact HO_5.out⟩, ⟨by (with_reducible repeat (first | apply Kd.N_alloc | apply Kd.N_drewN | apply Kd.N_drew)); exact HO_6.out⟩, ⟨by (with_reducible repeat (first | apply Kd.R_alloc | apply Kd.R_drewN | apply Kd.R_drew)); exact HO_7.out⟩, ⟨by repeat (first | (with_reducible first | exact HB.out | apply qAd | apply qAc | apply qAe) | exact HB.out)⟩⟩
              ·rw [if_neg c20] at H
               exact absurd H (by simp)
             ·rw [if_neg c19] at H
              exact absurd H (by simp)
            ·rw [if_neg c18] at H
             exact absurd H (by simp)
           ·rw [if_neg c17] at H
            exact absurd H (by simp)
          ·rw [if_neg c16] at H
           exact absurd H (by simp)
         ·rw [if_neg c15] at H
          have c15b0 : decide (0 ≤ x10_3) = false := decide_eq_false c15
          clear c15
          replace H := Option.bind_eq_some_iff.mp H
          obtain ⟨⟨t328, t329, t330, t331, t332, t335⟩, A320, H⟩ := H
          replace H : ((value_May.f t328 t329 t330 t331 t332 t335).bind fun t339 => (if t339 = true then (if t328 = 5 then (if (t335.length : Int) = (t332.length : Int) then (if x9_3 = true then (if (t335.length : Int) = (l0.length : Int) then ((value_Of.f k3 x7_3 x6_3).bind fun bt340 => ((value_Same.f t328 t329 t330 t331 t332 t335 bt340.1 bt340.2.1 bt340.2.2.1 bt340.2.2.2.1 bt340.2.2.2.2.1 bt340.2.2.2.2.2).bind fun t350 => (hogsheadlaw15_ValueKeys.j4 k3 l0 x5_2 (!t350) t328 t329 t330 t331 t332 t335))) else (hogsheadlaw15_ValueKeys.j4 k3 l0 x5_2 true t328 t329 t330 t331 t332 t335)) else (hogsheadlaw15_ValueKeys.j4 k3 l0 x5_2 false t328 t329 t330 t331 t332 t335)) else (hogsheadlaw15_ValueKeys.j4 k3 l0 x5_2 true t328 t329 t330 t331 t332 t335)) else (hogsheadlaw15_ValueKeys.j4 k3 l0 x5_2 true t328 t329 t330 t331 t332 t335)) else (hogsheadlaw15_ValueKeys.j4 k3 l0 x5_2 true t328 t329 t330 t331 t332 t335))) = some r := H
          have A32 := Aside0.mk A320
          clear A320
          have HC33 := Aside0.mk H
          clear H
          obtain ⟨Ao34, co34, eo34⟩ := Kd.N_slice HO_5.out
          subst eo34
          go_upto_region 20 with (first | ((with_reducible refine qAp (f := 30) rfl ?_); refine goesL_ (some 83) rfl rfl Tryd.func30 (by kernel_rfl) rfl #[.slice A0 l0.length c0, .slice Ao34 x5_2.length co34] rfl (by (try simp only [List.map_toArray, List.map_cons, List.map_nil]); first | done | rfl | (simp only [List.length_drop, List.length_take]; rfl)) ?_; (with_reducible refine (value_Of.calls k3 _ _ l0 _ _ x5_2 t328 t329 t330 t331 t332 t335 _ ?side1 ?side2 ?side3 ?side4 A32.out).mono ?_); (case side1 => repeat (first | exact (Kd.C_below HR0.out HB.out) | (with_reducible refine Kd.C_alloc ?_ _) | (with_reducible refine Kd.C_drewN ?_ _) | (with_reducible refine Kd.C_drew ?_))); (case side2 => exact HC0.out); (case side3 => repeat (first | exact (Kd.N_reads' HO_5.out).2.2 | (with_reducible refine Kd.C_alloc ?_ _) | (with_reducible refine Kd.C_drewN ?_ _) | (with_reducible refine Kd.C_drew ?_))); (case side4 => exact (Kd.N_reads' HO_5.out).2.1); rintro e w35 ⟨v333, v336, rfl, ho0, ho1, hb⟩; refine ⟨_, rfl, ?_⟩; have n0_ := Aside0.mk (Kd.N_mono (Kd.N_told (Kd.N_told (Kd.N_old (by (with_reducible repeat (first | apply Kd.N_alloc | apply Kd.N_drewN | apply Kd.N_drew)); exact HO_5.out) hb) (Kd.N_base (Kd.R_N ho0))) (Kd.R_base ho1)) (fun _ h_ => h_.1)); have n1_ := Aside0.mk (Kd.N_mono (Kd.N_told (Kd.N_told (Kd.N_old (by (with_reducible repeat (first | apply Kd.N_alloc | apply Kd.N_drewN | apply Kd.N_drew)); exact HO_6.out) hb) (Kd.N_base (Kd.R_N ho0))) (Kd.R_base ho1)) (fun _ h_ => h_.1)); have n2_ := Aside0.mk (Kd.R_elder' (by (with_reducible repeat (first | apply Kd.R_alloc | apply Kd.R_drewN | apply Kd.R_drew)); exact HO_7.out) (Kd.R_base ho1) hb); have n3_ := Aside0.mk (Kd.N_lower (Kd.N_mono (ok' := fun k_ => some k_ ≠ (v336 : Value).ownBlock ∧ some k_ ≠ (.slice Ao34 x5_2.length co34 : Value).ownBlock ∧ some k_ ≠ (u6 : Value).ownBlock ∧ some k_ ≠ (u7 : Value).ownBlock) (Kd.R_N (Kd.R_bound ho0)) (fun k_ hk_ => ⟨hk_.1, (Kd.fresh' (Kd.N_lt (by (with_reducible repeat (first | apply Kd.N_alloc | apply Kd.N_drewN | apply Kd.N_drew)); exact HO_5.out)) k_ hk_.2.1), (Kd.fresh' (Kd.N_lt (by (with_reducible repeat (first | apply Kd.N_alloc | apply Kd.N_drewN | apply Kd.N_drew)); exact HO_6.out)) k_ hk_.2.1), (Kd.fresh' (Kd.R_lt (by (with_reducible repeat (first | apply Kd.R_alloc | apply Kd.R_drewN | apply Kd.R_drew)); exact HO_7.out)) k_ hk_.2.1)⟩)) (qAj (by repeat (first | (with_reducible first | exact HB.out | apply qAd | apply qAc | apply qAe) | exact HB.out)))); have n4_ := Aside0.mk (Kd.R_lower (Kd.R_new' ho1 (Kd.R_lt (by (with_reducible repeat (first | apply Kd.R_alloc | apply Kd.R_drewN | apply Kd.R_drew)); exact HO_7.out))) (qAj (by repeat (first | (with_reducible first | exact HB.out | apply qAd | apply qAc | apply qAe) | exact HB.out)))); have n5_ := Aside0.mk (qAi (by repeat (first | (with_reducible first | exact HB.out | apply qAd | apply qAc | apply qAe) | exact HB.out)) hb); clear HO_5; clear HO_6; clear HO_7; clear HB; have HO_5 := n0_; have HO_6 := n1_; have HO_7 := n2_; have HO334 := n3_; have HO337 := n4_; have HB := n5_; clear n0_ n1_ n2_ n3_ n4_ n5_; (try clear hb); (try clear hb2); (try clear hk); (try clear hi); (try clear ho0); (try clear ho1)) | ((with_reducible refine qA3 (N := 12) rfl ?_); (try (refine qBl (by rfl) ?_; dsimp only)); refine qA5 ?hg (N := 12) ?hd (cs := #[.int .i64 0, .bool false, .int .i64 0, .string (⟨#[]⟩ : ByteArray), .slice none 0 0, .slice none 0 0]) (t := 25) ?hr ?_; (case hd => rfl); (case hg => rfl); (case hr => first | (go_simp; done) | (go_simp; rfl)); intro gb338 hg w36 hbox hb; have n0_ := Aside0.mk (Kd.N_below (Kd.N_elderB (by (with_reducible repeat (first | apply Kd.N_alloc | apply Kd.N_drewN | apply Kd.N_drew)); exact HO_5.out) gb338 (Nat.le_of_eq hg.symm)) hb); have n1_ := Aside0.mk (Kd.N_below (Kd.N_elderB (by (with_reducible repeat (first | apply Kd.N_alloc | apply Kd.N_drewN | apply Kd.N_drew)); exact HO_6.out) gb338 (Nat.le_of_eq hg.symm)) hb); have n2_ := Aside0.mk (Kd.R_below (by (with_reducible repeat (first | apply Kd.R_alloc | apply Kd.R_drewN | apply Kd.R_drew)); exact HO_7.out) hb); have n3_ := Aside0.mk (Kd.N_below (Kd.N_elderB (by (with_reducible repeat (first | apply Kd.N_alloc | apply Kd.N_drewN | apply Kd.N_drew)); exact HO334.out) gb338 (Nat.le_of_eq hg.symm)) hb); have n4_ := Aside0.mk (Kd.R_below (by (with_reducible repeat (first | apply Kd.R_alloc | apply Kd.R_drewN | apply Kd.R_drew)); exact HO337.out) hb); have n5_ := Aside0.mk (qAi (by repeat (first | (with_reducible first | exact HB.out | apply qAd | apply qAc | apply qAe) | exact HB.out)) hb); have n6_ := Aside0.mk (hbox); have n7_ := Aside0.mk ((by rw [hg]; exact (qAj (by repeat (first | (with_reducible first | exact HB.out | apply qAd | apply qAc | apply qAe) | exact HB.out))) : w.heap.size ≤ gb338)); have n8_ := Aside0.mk ((by rw [hg]; exact (qAj (by repeat (first | (with_reducible first | exact HB.out | apply qAd | apply qAc | apply qAe) | exact HB.out))) : w.heap.size ≤ gb338)); clear HO_5; clear HO_6; clear HO_7; clear HO334; clear HO337; clear HB; have HO_5 := n0_; have HO_6 := n1_; have HO_7 := n2_; have HO334 := n3_; have HO337 := n4_; have HB := n5_; have BK338 := n6_; have GW338 := n7_; have GE338 := n8_; clear n0_ n1_ n2_ n3_ n4_ n5_ n6_ n7_ n8_; clear hb hbox hg; have hcz37_0 : w36.cell? ⟨gb338, 0, none⟩ = some (.int .i64 0) := (qAa BK338.out 0).trans rfl; have hcz37_1 : w36.cell? ⟨gb338, 1, none⟩ = some (.bool false) := (qAa BK338.out 1).trans rfl; have hcz37_2 : w36.cell? ⟨gb338, 2, none⟩ = some (.int .i64 0) := (qAa BK338.out 2).trans rfl; have hcz37_3 : w36.cell? ⟨gb338, 3, none⟩ = some (.string (⟨#[]⟩ : ByteArray)) := (qAa BK338.out 3).trans rfl; have hcz37_4 : w36.cell? ⟨gb338, 4, none⟩ = some (.slice none 0 0) := (qAa BK338.out 4).trans rfl; have hcz37_5 : w36.cell? ⟨gb338, 5, none⟩ = some (.slice none 0 0) := (qAa BK338.out 5).trans rfl; have hfz37_0 := qAb BK338.out 0; have hfz37_1 := qAb BK338.out 1; have hfz37_2 := qAb BK338.out 2; have hfz37_3 := qAb BK338.out 3; have hfz37_4 := qAb BK338.out 4; have hfz37_5 := qAb BK338.out 5; obtain ⟨Ao38, co38, eo38⟩ := Kd.N_slice HO334.out; subst eo38; obtain ⟨Ao39, co39, eo39⟩ := Kd.R_slice HO337.out; subst eo39))
          (try simp only [Act.put, List.setIfInBounds_toArray, List.set_cons_zero, List.set_cons_succ])
          go_cut [119] (fun v119 wc => ∃ (kq : Nat) (x119_32 : Bool), v119 = .bool x119_32 ∧ Aside0 (hogsheadlaw15_ValueKeys.j4 kq l0 x5_2 x119_32 t328 t329 t330 t331 t332 t335 = some r) ∧ Aside0 (kq ≤ k3) ∧ Aside0 (Kd.N k25 25 wc w.heap.size (fun k_ => some k_ ≠ ((.slice Ao38 t332.length co38) : Value).ownBlock ∧ some k_ ≠ ((.slice Ao39 t335.length co39) : Value).ownBlock ∧ k_ ≠ gb338) (.slice Ao34 x5_2.length co34) x5_2) ∧ Aside0 (Kd.N k25 25 wc w.heap.size (fun k_ => some k_ ≠ ((.slice Ao34 x5_2.length co34) : Value).ownBlock ∧ some k_ ≠ ((.slice Ao39 t335.length co39) : Value).ownBlock ∧ k_ ≠ gb338) (.slice Ao38 t332.length co38) t332) ∧ Aside0 (Kd.R Kd.string 9 wc w.heap.size (fun _ => True) (.slice Ao39 t335.length co39) t335) ∧ Aside0 (wc.heap[gb338]? = some (.cells #[.int .i64 t328, .bool t329, .int .i64 t330, .string t331, (.slice Ao38 t332.length co38), (.slice Ao39 t335.length co39)] 25 (0, 0))) ∧ Aside0 (Below w.heap.size w wc))
          case first =>
           have H := HC33.out
           clear HC33
           replace H := Option.bind_eq_some_iff.mp H
           obtain ⟨t339, A400, H⟩ := H
           replace H : (if t339 = true then (if t328 = 5 then (if (t335.length : Int) = (t332.length : Int) then (if x9_3 = true then (if (t335.length : Int) = (l0.length : Int) then ((value_Of.f k3 x7_3 x6_3).bind fun bt340 => ((value_Same.f t328 t329 t330 t331 t332 t335 bt340.1 bt340.2.1 bt340.2.2.1 bt340.2.2.2.1 bt340.2.2.2.2.1 bt340.2.2.2.2.2).bind fun t350 => (hogsheadlaw15_ValueKeys.j4 k3 l0 x5_2 (!t350) t328 t329 t330 t331 t332 t335))) else (hogsheadlaw15_ValueKeys.j4 k3 l0 x5_2 true t328 t329 t330 t331 t332 t335)) else (hogsheadlaw15_ValueKeys.j4 k3 l0 x5_2 false t328 t329 t330 t331 t332 t335)) else (hogsheadlaw15_ValueKeys.j4 k3 l0 x5_2 true t328 t329 t330 t331 t332 t335)) else (hogsheadlaw15_ValueKeys.j4 k3 l0 x5_2 true t328 t329 t330 t331 t332 t335)) else (hogsheadlaw15_ValueKeys.j4 k3 l0 x5_2 true t328 t329 t330 t331 t332 t335)) = some r := H
           have A40 := Aside0.mk A400
           clear A400
           by_cases c41 : t339 = true
           ·subst c41
            have H1 : (if t328 = 5 then (if (t335.length : Int) = (t332.length : Int) then (if x9_3 = true then (if (t335.length : Int) = (l0.length : Int) then ((value_Of.f k3 x7_3 x6_3).bind fun bt340 => ((value_Same.f t328 t329 t330 t331 t332 t335 bt340.1 bt340.2.1 bt340.2.2.1 bt340.2.2.2.1 bt340.2.2.2.2.1 bt340.2.2.2.2.2).bind fun t350 => (hogsheadlaw15_ValueKeys.j4 k3 l0 x5_2 (!t350) t328 t329 t330 t331 t332 t335))) else (hogsheadlaw15_ValueKeys.j4 k3 l0 x5_2 true t328 t329 t330 t331 t332 t335)) else (hogsheadlaw15_ValueKeys.j4 k3 l0 x5_2 false t328 t329 t330 t331 t332 t335)) else (hogsheadlaw15_ValueKeys.j4 k3 l0 x5_2 true t328 t329 t330 t331 t332 t335)) else (hogsheadlaw15_ValueKeys.j4 k3 l0 x5_2 true t328 t329 t330 t331 t332 t335)) = some r := by rw [if_pos rfl] at H; exact H
            clear H
            have H := H1
            clear H1
            by_cases c42 : t328 = 5
            ·rw [if_pos c42] at H
             have c42b0 : (t328 == 5) = true := beq_iff_eq.mpr c42
             have c42b1 : (t328 != 5) = false := bne_eq_false_iff_eq.mpr c42
             clear c42
             (first | rw [c42b0] | (simp only [i64_w, i32_w]; rw [c42b0]) | skip)
             by_cases c43 : (t335.length : Int) = (t332.length : Int)
             ·rw [if_pos c43] at H
              have c43b0 : ((t335.length : Int) == (t332.length : Int)) = true := beq_iff_eq.mpr c43
              have c43b1 : ((t335.length : Int) != (t332.length : Int)) = false := bne_eq_false_iff_eq.mpr c43
              have c43b2 : (t335.length == t332.length) = true := by first | simpa using c43 | (simp at c43 ⊢; omega)
              clear c43
              by_cases c44 : x9_3 = true
              ·subst c44
               have H1 : (if (t335.length : Int) = (l0.length : Int) then ((value_Of.f k3 x7_3 x6_3).bind fun bt340 => ((value_Same.f t328 t329 t330 t331 t332 t335 bt340.1 bt340.2.1 bt340.2.2.1 bt340.2.2.2.1 bt340.2.2.2.2.1 bt340.2.2.2.2.2).bind fun t350 => (hogsheadlaw15_ValueKeys.j4 k3 l0 x5_2 (!t350) t328 t329 t330 t331 t332 t335))) else (hogsheadlaw15_ValueKeys.j4 k3 l0 x5_2 true t328 t329 t330 t331 t332 t335)) = some r := by rw [if_pos rfl] at H; exact H
               clear H
               have H := H1
               clear H1
               by_cases c45 : (t335.length : Int) = (l0.length : Int)
               ·rw [if_pos c45] at H
                have c45b0 : ((t335.length : Int) == (l0.length : Int)) = true := beq_iff_eq.mpr c45
                have c45b1 : ((t335.length : Int) != (l0.length : Int)) = false := bne_eq_false_iff_eq.mpr c45
                have c45b2 : (t335.length == l0.length) = true := by first | simpa using c45 | (simp at c45 ⊢; omega)
                clear c45
                replace H := Option.bind_eq_some_iff.mp H
                obtain ⟨⟨t340, t341, t342, t343, t344, t347⟩, A460, H⟩ := H
                replace H : ((value_Same.f t328 t329 t330 t331 t332 t335 t340 t341 t342 t343 t344 t347).bind fun t350 => (hogsheadlaw15_ValueKeys.j4 k3 l0 x5_2 (!t350) t328 t329 t330 t331 t332 t335)) = some r := H
                have A46 := Aside0.mk A460
                clear A460
                replace H := Option.bind_eq_some_iff.mp H
                obtain ⟨t350, A470, H⟩ := H
                replace H : (hogsheadlaw15_ValueKeys.j4 k3 l0 x5_2 (!t350) t328 t329 t330 t331 t332 t335) = some r := H
                have A47 := Aside0.mk A470
                clear A470
                have H' := Aside0.mk H
                clear H
                try go_wp2
                have n0_ : Aside0 (Kd.N k25 25 ((((((w36.setCell ⟨gb338, 0, none⟩ (.int .i64 t328)).setCell ⟨gb338, 1, none⟩ (.bool t329)).setCell ⟨gb338, 2, none⟩ (.int .i64 t330)).setCell ⟨gb338, 3, none⟩ (.string t331)).setCell ⟨gb338, 4, none⟩ (.slice Ao38 t332.length co38)).setCell ⟨gb338, 5, none⟩ (.slice Ao39 t335.length co39)) w.heap.size (fun k_ => some k_ ≠ (u6 : Value).ownBlock ∧ some k_ ≠ (u7 : Value).ownBlock ∧ some k_ ≠ (.slice Ao38 t332.length co38 : Value).ownBlock ∧ some k_ ≠ (.slice Ao39 t335.length co39 : Value).ownBlock ∧ k_ ≠ gb338) (.slice Ao34 x5_2.length co34) x5_2) := ⟨by (with_reducible repeat (first | apply Kd.N_alloc | apply Kd.N_drewN | apply Kd.N_drew)); exact Kd.N_mono (Kd.N_far (p := ⟨gb338, 5, none⟩) (Kd.N_far (p := ⟨gb338, 4, none⟩) (Kd.N_far (p := ⟨gb338, 3, none⟩) (Kd.N_far (p := ⟨gb338, 2, none⟩) (Kd.N_far (p := ⟨gb338, 1, none⟩) (Kd.N_far (p := ⟨gb338, 0, none⟩) (Kd.N_mono HO_5.out (fun k_ hk => (⟨hk, hk.2⟩ : _ ∧ k_ ≠ gb338))) (fun _ hk => hk.2) (.int .i64 t328)) (fun _ hk => hk.2) (.bool t329)) (fun _ hk => hk.2) (.int .i64 t330)) (fun _ hk => hk.2) (.string t331)) (fun _ hk => hk.2) (.slice Ao38 t332.length co38)) (fun _ hk => hk.2) (.slice Ao39 t335.length co39)) (fun _ hk => ⟨hk.1.1.1.1.1, ⟨hk.1.1.1.1.2, ⟨hk.1.1.1.2, ⟨hk.1.1.2, hk.1.2⟩⟩⟩⟩)⟩
                have n1_ : Aside0 (Kd.N k25 25 ((((((w36.setCell ⟨gb338, 0, none⟩ (.int .i64 t328)).setCell ⟨gb338, 1, none⟩ (.bool t329)).setCell ⟨gb338, 2, none⟩ (.int .i64 t330)).setCell ⟨gb338, 3, none⟩ (.string t331)).setCell ⟨gb338, 4, none⟩ (.slice Ao38 t332.length co38)).setCell ⟨gb338, 5, none⟩ (.slice Ao39 t335.length co39)) w.heap.size (fun k_ => some k_ ≠ (.slice Ao34 x5_2.length co34 : Value).ownBlock ∧ some k_ ≠ (u7 : Value).ownBlock ∧ some k_ ≠ (.slice Ao38 t332.length co38 : Value).ownBlock ∧ some k_ ≠ (.slice Ao39 t335.length co39 : Value).ownBlock ∧ k_ ≠ gb338) u6 x6_3) := ⟨by (with_reducible repeat (first | apply Kd.N_alloc | apply Kd.N_drewN | apply Kd.N_drew)); exact Kd.N_mono (Kd.N_far (p := ⟨gb338, 5, none⟩) (Kd.N_far (p := ⟨gb338, 4, none⟩) (Kd.N_far (p := ⟨gb338, 3, none⟩) (Kd.N_far (p := ⟨gb338, 2, none⟩) (Kd.N_far (p := ⟨gb338, 1, none⟩) (Kd.N_far (p := ⟨gb338, 0, none⟩) (Kd.N_mono HO_6.out (fun k_ hk => (⟨hk, hk.2⟩ : _ ∧ k_ ≠ gb338))) (fun _ hk => hk.2) (.int .i64 t328)) (fun _ hk => hk.2) (.bool t329)) (fun _ hk => hk.2) (.int .i64 t330)) (fun _ hk => hk.2) (.string t331)) (fun _ hk => hk.2) (.slice Ao38 t332.length co38)) (fun _ hk => hk.2) (.slice Ao39 t335.length co39)) (fun _ hk => ⟨hk.1.1.1.1.1, ⟨hk.1.1.1.1.2, ⟨hk.1.1.1.2, ⟨hk.1.1.2, hk.1.2⟩⟩⟩⟩)⟩
                have n2_ : Aside0 (Kd.R Kd.string 9 ((((((w36.setCell ⟨gb338, 0, none⟩ (.int .i64 t328)).setCell ⟨gb338, 1, none⟩ (.bool t329)).setCell ⟨gb338, 2, none⟩ (.int .i64 t330)).setCell ⟨gb338, 3, none⟩ (.string t331)).setCell ⟨gb338, 4, none⟩ (.slice Ao38 t332.length co38)).setCell ⟨gb338, 5, none⟩ (.slice Ao39 t335.length co39)) w.heap.size (fun k_ => some k_ ≠ (.slice Ao39 t335.length co39 : Value).ownBlock) u7 x7_3) := ⟨by (with_reducible repeat (first | apply Kd.R_alloc | apply Kd.R_drewN | apply Kd.R_drew)); exact Kd.R_mono (Kd.R_far (p := ⟨gb338, 5, none⟩) (Kd.R_far (p := ⟨gb338, 4, none⟩) (Kd.R_far (p := ⟨gb338, 3, none⟩) (Kd.R_far (p := ⟨gb338, 2, none⟩) (Kd.R_far (p := ⟨gb338, 1, none⟩) (Kd.R_far (p := ⟨gb338, 0, none⟩) (Kd.R_types HO_7.out BK338.out (by decide)) (fun _ hk => hk.2) (.int .i64 t328)) (fun _ hk => hk.2) (.bool t329)) (fun _ hk => hk.2) (.int .i64 t330)) (fun _ hk => hk.2) (.string t331)) (fun _ hk => hk.2) (.slice Ao38 t332.length co38)) (fun _ hk => hk.2) (.slice Ao39 t335.length co39)) (fun _ hk => hk.1.2)⟩
                have n3_ : Aside0 (Kd.N k25 25 ((((((w36.setCell ⟨gb338, 0, none⟩ (.int .i64 t328)).setCell ⟨gb338, 1, none⟩ (.bool t329)).setCell ⟨gb338, 2, none⟩ (.int .i64 t330)).setCell ⟨gb338, 3, none⟩ (.string t331)).setCell ⟨gb338, 4, none⟩ (.slice Ao38 t332.length co38)).setCell ⟨gb338, 5, none⟩ (.slice Ao39 t335.length co39)) w.heap.size (fun k_ => some k_ ≠ (.slice Ao34 x5_2.length co34 : Value).ownBlock ∧ some k_ ≠ (u6 : Value).ownBlock ∧ some k_ ≠ (u7 : Value).ownBlock ∧ some k_ ≠ (.slice Ao39 t335.length co39 : Value).ownBlock ∧ k_ ≠ gb338) (.slice Ao38 t332.length co38) t332) := ⟨by (with_reducible repeat (first | apply Kd.N_alloc | apply Kd.N_drewN | apply Kd.N_drew)); exact Kd.N_mono (Kd.N_far (p := ⟨gb338, 5, none⟩) (Kd.N_far (p := ⟨gb338, 4, none⟩) (Kd.N_far (p := ⟨gb338, 3, none⟩) (Kd.N_far (p := ⟨gb338, 2, none⟩) (Kd.N_far (p := ⟨gb338, 1, none⟩) (Kd.N_far (p := ⟨gb338, 0, none⟩) (Kd.N_mono HO334.out (fun k_ hk => (⟨hk, hk.2⟩ : _ ∧ k_ ≠ gb338))) (fun _ hk => hk.2) (.int .i64 t328)) (fun _ hk => hk.2) (.bool t329)) (fun _ hk => hk.2) (.int .i64 t330)) (fun _ hk => hk.2) (.string t331)) (fun _ hk => hk.2) (.slice Ao38 t332.length co38)) (fun _ hk => hk.2) (.slice Ao39 t335.length co39)) (fun _ hk => ⟨hk.1.1.2.1, ⟨hk.1.1.2.2.1, ⟨hk.1.1.2.2.2, ⟨hk.1.1.1, hk.1.2⟩⟩⟩⟩)⟩
                have n4_ : Aside0 (Kd.R Kd.string 9 ((((((w36.setCell ⟨gb338, 0, none⟩ (.int .i64 t328)).setCell ⟨gb338, 1, none⟩ (.bool t329)).setCell ⟨gb338, 2, none⟩ (.int .i64 t330)).setCell ⟨gb338, 3, none⟩ (.string t331)).setCell ⟨gb338, 4, none⟩ (.slice Ao38 t332.length co38)).setCell ⟨gb338, 5, none⟩ (.slice Ao39 t335.length co39)) w.heap.size (fun k_ => some k_ ≠ (u7 : Value).ownBlock) (.slice Ao39 t335.length co39) t335) := ⟨by (with_reducible repeat (first | apply Kd.R_alloc | apply Kd.R_drewN | apply Kd.R_drew)); exact Kd.R_mono (Kd.R_far (p := ⟨gb338, 5, none⟩) (Kd.R_far (p := ⟨gb338, 4, none⟩) (Kd.R_far (p := ⟨gb338, 3, none⟩) (Kd.R_far (p := ⟨gb338, 2, none⟩) (Kd.R_far (p := ⟨gb338, 1, none⟩) (Kd.R_far (p := ⟨gb338, 0, none⟩) (Kd.R_types HO337.out BK338.out (by decide)) (fun _ hk => hk.2) (.int .i64 t328)) (fun _ hk => hk.2) (.bool t329)) (fun _ hk => hk.2) (.int .i64 t330)) (fun _ hk => hk.2) (.string t331)) (fun _ hk => hk.2) (.slice Ao38 t332.length co38)) (fun _ hk => hk.2) (.slice Ao39 t335.length co39)) (fun _ hk => hk.1.2)⟩
                have n5_ : Aside0 (((((((w36.setCell ⟨gb338, 0, none⟩ (.int .i64 t328)).setCell ⟨gb338, 1, none⟩ (.bool t329)).setCell ⟨gb338, 2, none⟩ (.int .i64 t330)).setCell ⟨gb338, 3, none⟩ (.string t331)).setCell ⟨gb338, 4, none⟩ (.slice Ao38 t332.length co38)).setCell ⟨gb338, 5, none⟩ (.slice Ao39 t335.length co39)).heap[gb338]? = some (.cells #[.int .i64 t328, .bool t329, .int .i64 t330, .string t331, .slice Ao38 t332.length co38, .slice Ao39 t335.length co39] 25 (0, 0))) := ⟨by (with_reducible repeat (first | refine qAg ?_ _ | refine qAh ?_ | refine blk_alloc ?_ _)); refine qAv (cs := #[.int .i64 t328, .bool t329, .int .i64 t330, .string t331, .slice Ao38 t332.length co38, .slice none 0 0]) ?_ 5 _ rfl; (with_reducible repeat (first | refine qAg ?_ _ | refine qAh ?_ | refine blk_alloc ?_ _)); refine qAv (cs := #[.int .i64 t328, .bool t329, .int .i64 t330, .string t331, .slice none 0 0, .slice none 0 0]) ?_ 4 _ rfl; (with_reducible repeat (first | refine qAg ?_ _ | refine qAh ?_ | refine blk_alloc ?_ _)); refine qAv (cs := #[.int .i64 t328, .bool t329, .int .i64 t330, .string (⟨#[]⟩ : ByteArray), .slice none 0 0, .slice none 0 0]) ?_ 3 _ rfl; (with_reducible repeat (first | refine qAg ?_ _ | refine qAh ?_ | refine blk_alloc ?_ _)); refine qAv (cs := #[.int .i64 t328, .bool t329, .int .i64 0, .string (⟨#[]⟩ : ByteArray), .slice none 0 0, .slice none 0 0]) ?_ 2 _ rfl; (with_reducible repeat (first | refine qAg ?_ _ | refine qAh ?_ | refine blk_alloc ?_ _)); refine qAv (cs := #[.int .i64 t328, .bool false, .int .i64 0, .string (⟨#[]⟩ : ByteArray), .slice none 0 0, .slice none 0 0]) ?_ 1 _ rfl; (with_reducible repeat (first | refine qAg ?_ _ | refine qAh ?_ | refine blk_alloc ?_ _)); refine qAv (cs := #[.int .i64 0, .bool false, .int .i64 0, .string (⟨#[]⟩ : ByteArray), .slice none 0 0, .slice none 0 0]) ?_ 0 _ rfl; (with_reducible repeat (first | refine qAg ?_ _ | refine qAh ?_ | refine blk_alloc ?_ _)); exact BK338.out⟩
                have n6_ : Aside0 (Below w.heap.size w ((((((w36.setCell ⟨gb338, 0, none⟩ (.int .i64 t328)).setCell ⟨gb338, 1, none⟩ (.bool t329)).setCell ⟨gb338, 2, none⟩ (.int .i64 t330)).setCell ⟨gb338, 3, none⟩ (.string t331)).setCell ⟨gb338, 4, none⟩ (.slice Ao38 t332.length co38)).setCell ⟨gb338, 5, none⟩ (.slice Ao39 t335.length co39))) := ⟨by repeat (first | (with_reducible first | exact HB.out | apply qAd | apply qAc | apply qAe | refine qAf ?_ GE338.out) | exact HB.out)⟩
                (try clear HO_5)
                (try clear HO_6)
                (try clear HO_7)
                (try clear HO334)
                (try clear HO337)
                (try clear BK338)
                (try clear HB)
                generalize ((((((w36.setCell ⟨gb338, 0, none⟩ (.int .i64 t328)).setCell ⟨gb338, 1, none⟩ (.bool t329)).setCell ⟨gb338, 2, none⟩ (.int .i64 t330)).setCell ⟨gb338, 3, none⟩ (.string t331)).setCell ⟨gb338, 4, none⟩ (.slice Ao38 t332.length co38)).setCell ⟨gb338, 5, none⟩ (.slice Ao39 t335.length co39)) = w48 at n0_ n1_ n2_ n3_ n4_ n5_ n6_ ⊢
                have HO_5 := n0_
                have HO_6 := n1_
                have HO_7 := n2_
                have HO334 := n3_
                have HO337 := n4_
                have BK338 := n5_
                have HB := n6_
                clear n0_ n1_ n2_ n3_ n4_ n5_ n6_
                have n0_ := Aside0.mk (Kd.N_drew HO_5.out)
                have n1_ := Aside0.mk (Kd.N_drew HO_6.out)
                have n2_ := Aside0.mk (Kd.R_drew HO_7.out)
                have n3_ := Aside0.mk (Kd.N_drew HO334.out)
                have n4_ := Aside0.mk (Kd.R_drew HO337.out)
                have n5_ := Aside0.mk (qAh BK338.out)
                have n6_ := Aside0.mk (qAe HB.out)
                clear HO_5
                clear HO_6
                clear HO_7
                clear HO334
                clear HO337
                clear BK338
                clear HB
                have HO_5 := n0_
                have HO_6 := n1_
                have HO_7 := n2_
                have HO334 := n3_
                have HO337 := n4_
                have BK338 := n5_
                have HB := n6_
                clear n0_ n1_ n2_ n3_ n4_ n5_ n6_
                refine start_ (n := 36) (S := fun w' => w'.cell? ⟨gb338, 0, none⟩ = some (.int .i64 t328) ∧ w'.cell? ⟨gb338, 1, none⟩ = some (.bool t329) ∧ w'.cell? ⟨gb338, 2, none⟩ = some (.int .i64 t330) ∧ w'.cell? ⟨gb338, 3, none⟩ = some (.string t331) ∧ w'.cell? ⟨gb338, 4, none⟩ = some (.slice Ao38 t332.length co38) ∧ w'.cell? ⟨gb338, 5, none⟩ = some (.slice Ao39 t335.length co39)) (ds := []) #[false, false, false, false, false, false, false, false, false, false, false, false, false, false, false, false, false, false, false, false, false, false, false, false, false, false, false, false, false, false, false, false, false, false, false, false] (by kernel_rfl) rfl rfl ⟨(qAa BK338.out 0).trans rfl, (qAa BK338.out 1).trans rfl, (qAa BK338.out 2).trans rfl, (qAa BK338.out 3).trans rfl, (qAa BK338.out 4).trans rfl, (qAa BK338.out 5).trans rfl⟩ (fun hHeld => ?_); refine qA8 hogsheadlaw15_ValueKeys.tab20 hogsheadlaw15_ValueKeys.bits20 (fun HT_ HW_ => ?_)
                generalize w48.drew = w49 at HO_5 HO_6 HO_7 HO334 HO337 BK338 HB hHeld ⊢
                refine take_ (i := 0) (N := some 84) (v := ?_) (a' := ?_) (hogsheadlaw15_ValueKeys.bm 36 1) rfl rfl (qAt HT_.out HW_.out (by kernel_rfl)) (fun _ _ _ h => h) (Or.inl ⟨by rfl, ?_⟩) hHeld ?_ ?_
                rotate_left
                ·rintro w' ⟨s0, s1, s2, s3, s4, s5⟩
                 go_simp
                 with_reducible rfl
                rotate_left
                ·simp only [Act.put, List.setIfInBounds_toArray, List.set_cons_zero, List.set_cons_succ, i64_w, i32_w]
                 rfl
                refine one_ (i := 1) (N := some 85) (hogsheadlaw15_ValueKeys.bm 36 3) rfl rfl (one_of HT_.out (by kernel_rfl)) (by decide) (fun K hK => ?_)
                refine goes_ Tryd.func21 (by kernel_rfl) rfl #[.agg #[.int .i64 t328, .bool t329, .int .i64 t330, .string t331, .slice Ao38 t332.length co38, .slice Ao39 t335.length co39]] (by rfl) rfl rfl (by (try simp only [List.map_toArray, List.map_cons, List.map_nil]); first | done | rfl | (simp only [List.length_drop, List.length_take]; rfl)) ?_
                with_reducible refine (value_May.calls t328 t329 t330 t331 _ _ t332 _ _ t335 true _ ?side1 ?side2 ?side3 ?side4 A40.out).mono ?_
                (case side1 => repeat (first | exact (Kd.N_reads' HO334.out).2.2 | (with_reducible refine Kd.C_alloc ?_ _) | (with_reducible refine Kd.C_drewN ?_ _) | (with_reducible refine Kd.C_drew ?_)))
                (case side2 => exact (Kd.N_reads' HO334.out).2.1)
                (case side3 => repeat (first | exact (Kd.R_reads' HO337.out).2.2 | (with_reducible refine Kd.C_alloc ?_ _) | (with_reducible refine Kd.C_drewN ?_ _) | (with_reducible refine Kd.C_drew ?_)))
                (case side4 => exact (Kd.R_reads' HO337.out).2.1)
                rintro e w50 ⟨rfl, hb⟩
                refine ⟨_, rfl, ?_⟩
                have n0_ := Aside0.mk (Kd.N_below (by (with_reducible repeat (first | apply Kd.N_alloc | apply Kd.N_drewN | apply Kd.N_drew)); exact HO_5.out) hb)
                have n1_ := Aside0.mk (Kd.N_below (by (with_reducible repeat (first | apply Kd.N_alloc | apply Kd.N_drewN | apply Kd.N_drew)); exact HO_6.out) hb)
                have n2_ := Aside0.mk (Kd.R_below (by (with_reducible repeat (first | apply Kd.R_alloc | apply Kd.R_drewN | apply Kd.R_drew)); exact HO_7.out) hb)
                have n3_ := Aside0.mk (Kd.N_below (by (with_reducible repeat (first | apply Kd.N_alloc | apply Kd.N_drewN | apply Kd.N_drew)); exact HO334.out) hb)
                have n4_ := Aside0.mk (Kd.R_below (by (with_reducible repeat (first | apply Kd.R_alloc | apply Kd.R_drewN | apply Kd.R_drew)); exact HO337.out) hb)
                have n5_ := Aside0.mk (qAk (g := gb338) (o := .cells #[.int .i64 t328, .bool t329, .int .i64 t330, .string t331, .slice Ao38 t332.length co38, .slice Ao39 t335.length co39] 25 (0, 0)) (by (with_reducible repeat (first | refine qAg ?_ _ | refine qAh ?_ | refine blk_alloc ?_ _)); exact BK338.out) hb)
                have n6_ := Aside0.mk (qAi (by repeat (first | (with_reducible first | exact HB.out | apply qAd | apply qAc | apply qAe | refine qAf ?_ GE338.out) | exact HB.out)) hb)
                clear HO_5
                clear HO_6
                clear HO_7
                clear HO334
                clear HO337
                clear BK338
                clear HB
                have HO_5 := n0_
                have HO_6 := n1_
                have HO_7 := n2_
                have HO334 := n3_
                have HO337 := n4_
                have BK338 := n5_
                have HB := n6_
                clear n0_ n1_ n2_ n3_ n4_ n5_ n6_
                (try clear hb)
                (try clear hb2)
                (try clear hk)
                (try clear hi)
                obtain ⟨Ao51, co51, eo51⟩ := Kd.R_slice HO_7.out
                (first | subst eo51 | (injection eo51 with f1_ f2_ f3_; have f4_ := f1_.symm; have f5_ := f3_.symm; clear f1_ f2_ f3_; subst f4_; subst f5_))
                obtain ⟨Ao52, co52, eo52⟩ := Kd.N_slice HO_6.out
                (first | subst eo52 | (injection eo52 with f1_ f2_ f3_; have f4_ := f1_.symm; have f5_ := f3_.symm; clear f1_ f2_ f3_; subst f4_; subst f5_))
                refine hK.out _ _ ⟨(qAa BK338.out 0).trans rfl, (qAa BK338.out 1).trans rfl, (qAa BK338.out 2).trans rfl, (qAa BK338.out 3).trans rfl, (qAa BK338.out 4).trans rfl, (qAa BK338.out 5).trans rfl⟩ (fun hHeld => ?_)
                clear hK K
                refine norm_ (a' := ?_) ?_ ?_
                rotate_left
                ·show Act.put _ (some 85) _ = _
                 simp only [Act.put, List.setIfInBounds_toArray, List.set_cons_zero, List.set_cons_succ, i64_w, i32_w]
                 rfl
                refine pure_ (i := 2) (N := some 86) (v := ?_) (a' := ?_) (hogsheadlaw15_ValueKeys.bm 36 7) rfl rfl (any_of HT_.out (by kernel_rfl)) (fun _ _ _ h => h) (Or.inl ⟨by rfl, ?_⟩) ?_ ?_
                rotate_left
                ·intro w'
                 go_simp
                 with_reducible rfl
                rotate_left
                ·simp only [Act.put, List.setIfInBounds_toArray, List.set_cons_zero, List.set_cons_succ, i64_w, i32_w]
                 rfl
                refine pure_ (i := 3) (N := some 87) (v := ?_) (a' := ?_) (hogsheadlaw15_ValueKeys.bm 36 15) rfl rfl (any_of HT_.out (by kernel_rfl)) (fun _ _ _ h => h) (Or.inl ⟨by rfl, ?_⟩) ?_ ?_
                rotate_left
                ·intro w'
                 go_simp
                 with_reducible rfl
                rotate_left
                ·simp only [Act.put, List.setIfInBounds_toArray, List.set_cons_zero, List.set_cons_succ, i64_w, i32_w]
                 rfl
                refine pure_ (i := 4) (N := some 88) (v := ?_) (a' := ?_) (hogsheadlaw15_ValueKeys.bm 36 31) rfl rfl (any_of HT_.out (by kernel_rfl)) (fun _ _ _ h => h) (Or.inl ⟨by rfl, ?_⟩) ?_ ?_
                rotate_left
                ·intro w'
                 go_simp
                 with_reducible rfl
                rotate_left
                ·simp only [Act.put, List.setIfInBounds_toArray, List.set_cons_zero, List.set_cons_succ, i64_w, i32_w]
                 rfl
                refine take_ (i := 5) (N := some 89) (v := ?_) (a' := ?_) (hogsheadlaw15_ValueKeys.bm 36 63) rfl rfl (qAt HT_.out HW_.out (by kernel_rfl)) (fun _ _ _ h => h) (Or.inl ⟨by rfl, ?_⟩) hHeld ?_ ?_
                rotate_left
                ·rintro w' ⟨s0, s1, s2, s3, s4, s5⟩
                 go_simp
                 with_reducible rfl
                rotate_left
                ·simp only [Act.put, List.setIfInBounds_toArray, List.set_cons_zero, List.set_cons_succ, i64_w, i32_w]
                 rfl
                refine pure_ (i := 6) (N := some 90) (v := ?_) (a' := ?_) (hogsheadlaw15_ValueKeys.bm 36 127) rfl rfl (any_of HT_.out (by kernel_rfl)) (fun _ _ _ h => h) (Or.inl ⟨by rfl, ?_⟩) ?_ ?_
                rotate_left
                ·intro w'
                 go_simp
                 with_reducible rfl
                rotate_left
                ·simp only [Act.put, List.setIfInBounds_toArray, List.set_cons_zero, List.set_cons_succ, i64_w, i32_w]
                 rfl
                refine pure_ (i := 7) (N := some 91) (v := ?_) (a' := ?_) (hogsheadlaw15_ValueKeys.bm 36 255) rfl rfl (any_of HT_.out (by kernel_rfl)) (fun _ _ _ h => h) (Or.inl ⟨by rfl, ?_⟩) ?_ ?_
                rotate_left
                ·intro w'
                 go_simp
                 with_reducible rfl
                rotate_left
                ·simp only [Act.put, List.setIfInBounds_toArray, List.set_cons_zero, List.set_cons_succ, i64_w, i32_w]
                 rfl
                refine pure_ (i := 8) (N := some 92) (v := ?_) (a' := ?_) (hogsheadlaw15_ValueKeys.bm 36 511) rfl rfl (any_of HT_.out (by kernel_rfl)) (fun _ _ _ h => h) (Or.inl ⟨by rfl, ?_⟩) ?_ ?_
                rotate_left
                ·intro w'
                 go_simp
                 with_reducible rfl
                rotate_left
                ·simp only [Act.put, List.setIfInBounds_toArray, List.set_cons_zero, List.set_cons_succ, i64_w, i32_w]
                 rfl
                refine pure_ (i := 9) (N := some 93) (v := ?_) (a' := ?_) (hogsheadlaw15_ValueKeys.bm 36 1023) rfl rfl (any_of HT_.out (by kernel_rfl)) (fun _ _ _ h => h) (Or.inl ⟨by rfl, ?_⟩) ?_ ?_
                rotate_left
                ·intro w'
                 go_simp
                 with_reducible rfl
                rotate_left
                ·simp only [Act.put, List.setIfInBounds_toArray, List.set_cons_zero, List.set_cons_succ, i64_w, i32_w]
                 rfl
                refine pure_ (i := 12) (N := some 96) (v := ?_) (a' := ?_) (hogsheadlaw15_ValueKeys.bm 36 5119) rfl rfl (any_of HT_.out (by kernel_rfl)) (fun _ _ _ h => h) (Or.inl ⟨by rfl, ?_⟩) ?_ ?_
                rotate_left
                ·intro w'
                 go_simp
                 with_reducible rfl
                rotate_left
                ·simp only [Act.put, List.setIfInBounds_toArray, List.set_cons_zero, List.set_cons_succ, i64_w, i32_w]
                 rfl
                refine take_ (i := 10) (N := some 94) (v := ?_) (a' := ?_) (hogsheadlaw15_ValueKeys.bm 36 6143) rfl rfl (qAt HT_.out HW_.out (by kernel_rfl)) (fun _ _ _ h => h) (Or.inl ⟨by rfl, ?_⟩) hHeld ?_ ?_
                rotate_left
                ·rintro w' ⟨s0, s1, s2, s3, s4, s5⟩
                 go_simp
                 with_reducible rfl
                rotate_left
                ·simp only [Act.put, List.setIfInBounds_toArray, List.set_cons_zero, List.set_cons_succ, i64_w, i32_w]
                 rfl
                refine pure_ (i := 11) (N := some 95) (v := ?_) (a' := ?_) (hogsheadlaw15_ValueKeys.bm 36 8191) rfl rfl (any_of HT_.out (by kernel_rfl)) (fun _ _ _ h => h) (Or.inl ⟨by rfl, ?_⟩) ?_ ?_
                rotate_left
                ·intro w'
                 go_simp
                 with_reducible rfl
                rotate_left
                ·simp only [Act.put, List.setIfInBounds_toArray, List.set_cons_zero, List.set_cons_succ, i64_w, i32_w]
                 rfl
                refine take_ (i := 13) (N := some 97) (v := ?_) (a' := ?_) (hogsheadlaw15_ValueKeys.bm 36 16383) rfl rfl (qAt HT_.out HW_.out (by kernel_rfl)) (fun _ _ _ h => h) (Or.inl ⟨by rfl, ?_⟩) hHeld ?_ ?_
                rotate_left
                ·rintro w' ⟨s0, s1, s2, s3, s4, s5⟩
                 go_simp
                 with_reducible rfl
                rotate_left
                ·simp only [Act.put, List.setIfInBounds_toArray, List.set_cons_zero, List.set_cons_succ, i64_w, i32_w]
                 rfl
                refine pure_ (i := 14) (N := some 98) (v := ?_) (a' := ?_) (hogsheadlaw15_ValueKeys.bm 36 32767) rfl rfl (any_of HT_.out (by kernel_rfl)) (fun _ _ _ h => h) (Or.inl ⟨by rfl, ?_⟩) ?_ ?_
                rotate_left
                ·intro w'
                 go_simp
                 with_reducible rfl
                rotate_left
                ·simp only [Act.put, List.setIfInBounds_toArray, List.set_cons_zero, List.set_cons_succ, i64_w, i32_w]
                 rfl
                refine pure_ (i := 15) (N := some 99) (v := ?_) (a' := ?_) (hogsheadlaw15_ValueKeys.bm 36 65535) rfl rfl (any_of HT_.out (by kernel_rfl)) (fun _ _ _ h => h) (Or.inl ⟨by rfl, ?_⟩) ?_ ?_
                rotate_left
                ·intro w'
                 go_simp
                 with_reducible rfl
                rotate_left
                ·simp only [Act.put, List.setIfInBounds_toArray, List.set_cons_zero, List.set_cons_succ, i64_w, i32_w]
                 rfl
                refine pure_ (i := 16) (N := some 100) (v := ?_) (a' := ?_) (hogsheadlaw15_ValueKeys.bm 36 131071) rfl rfl (any_of HT_.out (by kernel_rfl)) (fun _ _ _ h => h) (Or.inl ⟨by rfl, ?_⟩) ?_ ?_
                rotate_left
                ·intro w'
                 go_simp
                 with_reducible rfl
                rotate_left
                ·simp only [Act.put, List.setIfInBounds_toArray, List.set_cons_zero, List.set_cons_succ, i64_w, i32_w]
                 rfl
                refine pure_ (i := 17) (N := some 101) (v := ?_) (a' := ?_) (hogsheadlaw15_ValueKeys.bm 36 262143) rfl rfl (any_of HT_.out (by kernel_rfl)) (fun _ _ _ h => h) (Or.inl ⟨by rfl, ?_⟩) ?_ ?_
                rotate_left
                ·intro w'
                 go_simp
                 with_reducible rfl
                rotate_left
                ·simp only [Act.put, List.setIfInBounds_toArray, List.set_cons_zero, List.set_cons_succ, i64_w, i32_w]
                 rfl
                refine pure_ (i := 18) (N := some 102) (v := ?_) (a' := ?_) (hogsheadlaw15_ValueKeys.bm 36 524287) rfl rfl (any_of HT_.out (by kernel_rfl)) (fun _ _ _ h => h) (Or.inl ⟨by rfl, ?_⟩) ?_ ?_
                rotate_left
                ·intro w'
                 go_simp
                 with_reducible rfl
                rotate_left
                ·simp only [Act.put, List.setIfInBounds_toArray, List.set_cons_zero, List.set_cons_succ, i64_w, i32_w]
                 rfl
                refine pure_ (i := 19) (N := some 103) (v := ?_) (a' := ?_) (hogsheadlaw15_ValueKeys.bm 36 1048575) rfl rfl (any_of HT_.out (by kernel_rfl)) (fun _ _ _ h => h) (Or.inl ⟨by rfl, ?_⟩) ?_ ?_
                rotate_left
                ·intro w'
                 go_simp
                 with_reducible rfl
                rotate_left
                ·simp only [Act.put, List.setIfInBounds_toArray, List.set_cons_zero, List.set_cons_succ, i64_w, i32_w]
                 rfl
                refine pure_ (i := 20) (N := some 104) (v := ?_) (a' := ?_) (hogsheadlaw15_ValueKeys.bm 36 2097151) rfl rfl (any_of HT_.out (by kernel_rfl)) (fun _ _ _ h => h) (Or.inl ⟨by rfl, ?_⟩) ?_ ?_
                rotate_left
                ·intro w'
                 go_simp
                 with_reducible rfl
                rotate_left
                ·simp only [Act.put, List.setIfInBounds_toArray, List.set_cons_zero, List.set_cons_succ, i64_w, i32_w]
                 rfl
                refine pure_ (i := 23) (N := some 107) (v := ?_) (a' := ?_) (hogsheadlaw15_ValueKeys.bm 36 10485759) rfl rfl (any_of HT_.out (by kernel_rfl)) (fun _ _ _ h => h) (Or.inl ⟨by rfl, ?_⟩) ?_ ?_
                rotate_left
                ·intro w'
                 go_simp
                 with_reducible rfl
                rotate_left
                ·simp only [Act.put, List.setIfInBounds_toArray, List.set_cons_zero, List.set_cons_succ, i64_w, i32_w]
                 rfl
                refine pure_ (i := 24) (N := some 108) (v := ?_) (a' := ?_) (hogsheadlaw15_ValueKeys.bm 36 27262975) rfl rfl (any_of HT_.out (by kernel_rfl)) (fun _ _ _ h => h) (Or.inl ⟨by rfl, ?_⟩) ?_ ?_
                rotate_left
                ·intro w'
                 go_simp
                 with_reducible rfl
                rotate_left
                ·simp only [Act.put, List.setIfInBounds_toArray, List.set_cons_zero, List.set_cons_succ, i64_w, i32_w]
                 rfl
                refine take_ (i := 21) (N := some 105) (v := ?_) (a' := ?_) (hogsheadlaw15_ValueKeys.bm 36 29360127) rfl rfl (qAt HT_.out HW_.out (by kernel_rfl)) (fun _ _ _ h => h) (Or.inl ⟨by rfl, ?_⟩) hHeld ?_ ?_
                rotate_left
                ·rintro w' ⟨s0, s1, s2, s3, s4, s5⟩
                 go_simp
                 with_reducible rfl
                rotate_left
                ·simp only [Act.put, List.setIfInBounds_toArray, List.set_cons_zero, List.set_cons_succ, i64_w, i32_w]
                 rfl
                refine pure_ (i := 22) (N := some 106) (v := ?_) (a' := ?_) (hogsheadlaw15_ValueKeys.bm 36 33554431) rfl rfl (any_of HT_.out (by kernel_rfl)) (fun _ _ _ h => h) (Or.inl ⟨by rfl, ?_⟩) ?_ ?_
                rotate_left
                ·intro w'
                 go_simp
                 with_reducible rfl
                rotate_left
                ·simp only [Act.put, List.setIfInBounds_toArray, List.set_cons_zero, List.set_cons_succ, i64_w, i32_w]
                 rfl
                refine pure_ (i := 25) (N := some 109) (v := ?_) (a' := ?_) (hogsheadlaw15_ValueKeys.bm 36 67108863) rfl rfl (any_of HT_.out (by kernel_rfl)) (fun _ _ _ h => h) (Or.inl ⟨by rfl, ?_⟩) ?_ ?_
                rotate_left
                ·intro w'
                 go_simp
                 with_reducible rfl
                rotate_left
                ·simp only [Act.put, List.setIfInBounds_toArray, List.set_cons_zero, List.set_cons_succ, i64_w, i32_w]
                 rfl
                refine pure_ (i := 26) (N := some 110) (v := ?_) (a' := ?_) (hogsheadlaw15_ValueKeys.bm 36 134217727) rfl rfl (any_of HT_.out (by kernel_rfl)) (fun _ _ _ h => h) (Or.inl ⟨by rfl, ?_⟩) ?_ ?_
                rotate_left
                ·intro w'
                 go_simp
                 with_reducible rfl
                rotate_left
                ·simp only [Act.put, List.setIfInBounds_toArray, List.set_cons_zero, List.set_cons_succ, i64_w, i32_w]
                 rfl
                refine pure_ (i := 28) (N := some 112) (v := ?_) (a' := ?_) (hogsheadlaw15_ValueKeys.bm 36 402653183) rfl rfl (any_of HT_.out (by kernel_rfl)) (fun _ _ _ h => h) (Or.inl ⟨by rfl, ?_⟩) ?_ ?_
                rotate_left
                ·intro w'
                 go_simp
                 with_reducible rfl
                rotate_left
                ·simp only [Act.put, List.setIfInBounds_toArray, List.set_cons_zero, List.set_cons_succ, i64_w, i32_w]
                 rfl
                refine pure_ (i := 29) (N := some 113) (v := ?_) (a' := ?_) (hogsheadlaw15_ValueKeys.bm 36 939524095) rfl rfl (any_of HT_.out (by kernel_rfl)) (fun _ _ _ h => h) (Or.inl ⟨by rfl, ?_⟩) ?_ ?_
                rotate_left
                ·intro w'
                 go_simp
                 with_reducible rfl
                rotate_left
                ·simp only [Act.put, List.setIfInBounds_toArray, List.set_cons_zero, List.set_cons_succ, i64_w, i32_w]
                 rfl
                refine take_ (i := 27) (N := some 111) (v := ?_) (a' := ?_) (hogsheadlaw15_ValueKeys.bm 36 1073741823) rfl rfl (qAt HT_.out HW_.out (by kernel_rfl)) (fun _ _ _ h => h) (Or.inl ⟨by rfl, ?_⟩) hHeld ?_ ?_
                rotate_left
                ·rintro w' ⟨s0, s1, s2, s3, s4, s5⟩
                 go_simp
                 with_reducible rfl
                rotate_left
                ·simp only [Act.put, List.setIfInBounds_toArray, List.set_cons_zero, List.set_cons_succ, i64_w, i32_w]
                 rfl
                refine one_ (i := 30) (N := some 114) (hogsheadlaw15_ValueKeys.bm 36 2147483647) rfl rfl (one_of HT_.out (by kernel_rfl)) (by decide) (fun K hK => ?_)
                refine goes_ Tryd.func30 (by kernel_rfl) rfl #[.slice Ao51 x7_3.length co51, .slice Ao52 x6_3.length co52] (by rfl) rfl rfl (by (try simp only [List.map_toArray, List.map_cons, List.map_nil]); first | done | rfl | (simp only [List.length_drop, List.length_take]; rfl)) ?_
                with_reducible refine (value_Of.calls k3 _ _ x7_3 _ _ x6_3 t340 t341 t342 t343 t344 t347 _ ?side1 ?side2 ?side3 ?side4 A46.out).mono ?_
                (case side1 => repeat (first | exact (Kd.R_reads' HO_7.out).2.2 | (with_reducible refine Kd.C_alloc ?_ _) | (with_reducible refine Kd.C_drewN ?_ _) | (with_reducible refine Kd.C_drew ?_)))
                (case side2 => exact (Kd.R_reads' HO_7.out).2.1)
                (case side3 => repeat (first | exact (Kd.N_reads' HO_6.out).2.2 | (with_reducible refine Kd.C_alloc ?_ _) | (with_reducible refine Kd.C_drewN ?_ _) | (with_reducible refine Kd.C_drew ?_)))
                (case side4 => exact (Kd.N_reads' HO_6.out).2.1)
                rintro e w53 ⟨v345, v348, rfl, ho0, ho1, hb⟩
                refine ⟨_, rfl, ?_⟩
                have n0_ := Aside0.mk (Kd.N_mono (Kd.N_told (Kd.N_told (Kd.N_old (by (with_reducible repeat (first | apply Kd.N_alloc | apply Kd.N_drewN | apply Kd.N_drew)); exact HO_5.out) hb) (Kd.N_base (Kd.R_N ho0))) (Kd.R_base ho1)) (fun _ h_ => h_.1))
                have n1_ := Aside0.mk (Kd.N_mono (Kd.N_told (Kd.N_told (Kd.N_old (by (with_reducible repeat (first | apply Kd.N_alloc | apply Kd.N_drewN | apply Kd.N_drew)); exact HO_6.out) hb) (Kd.N_base (Kd.R_N ho0))) (Kd.R_base ho1)) (fun _ h_ => h_.1))
                have n2_ := Aside0.mk (Kd.R_elder' (by (with_reducible repeat (first | apply Kd.R_alloc | apply Kd.R_drewN | apply Kd.R_drew)); exact HO_7.out) (Kd.R_base ho1) hb)
                have n3_ := Aside0.mk (Kd.N_mono (Kd.N_told (Kd.N_told (Kd.N_old (by (with_reducible repeat (first | apply Kd.N_alloc | apply Kd.N_drewN | apply Kd.N_drew)); exact HO334.out) hb) (Kd.N_base (Kd.R_N ho0))) (Kd.R_base ho1)) (fun _ h_ => h_.1))
                have n4_ := Aside0.mk (Kd.R_elder' (by (with_reducible repeat (first | apply Kd.R_alloc | apply Kd.R_drewN | apply Kd.R_drew)); exact HO337.out) (Kd.R_base ho1) hb)
                have n5_ := Aside0.mk (Kd.N_lower (Kd.N_mono (ok' := fun k_ => some k_ ≠ (v348 : Value).ownBlock ∧ some k_ ≠ (.slice Ao34 x5_2.length co34 : Value).ownBlock ∧ some k_ ≠ (.slice Ao52 x6_3.length co52 : Value).ownBlock ∧ some k_ ≠ (.slice Ao51 x7_3.length co51 : Value).ownBlock ∧ some k_ ≠ (.slice Ao38 t332.length co38 : Value).ownBlock ∧ some k_ ≠ (.slice Ao39 t335.length co39 : Value).ownBlock ∧ k_ ≠ gb338) (Kd.R_N (Kd.R_bound ho0)) (fun k_ hk_ => ⟨hk_.1, (Kd.fresh' (Kd.N_lt (by (with_reducible repeat (first | apply Kd.N_alloc | apply Kd.N_drewN | apply Kd.N_drew)); exact HO_5.out)) k_ hk_.2.1), (Kd.fresh' (Kd.N_lt (by (with_reducible repeat (first | apply Kd.N_alloc | apply Kd.N_drewN | apply Kd.N_drew)); exact HO_6.out)) k_ hk_.2.1), (Kd.fresh' (Kd.R_lt (by (with_reducible repeat (first | apply Kd.R_alloc | apply Kd.R_drewN | apply Kd.R_drew)); exact HO_7.out)) k_ hk_.2.1), (Kd.fresh' (Kd.N_lt (by (with_reducible repeat (first | apply Kd.N_alloc | apply Kd.N_drewN | apply Kd.N_drew)); exact HO334.out)) k_ hk_.2.1), (Kd.fresh' (Kd.R_lt (by (with_reducible repeat (first | apply Kd.R_alloc | apply Kd.R_drewN | apply Kd.R_drew)); exact HO337.out)) k_ hk_.2.1), (Kd.freshB (g := gb338) (o := .cells #[.int .i64 t328, .bool t329, .int .i64 t330, .string t331, .slice Ao38 t332.length co38, .slice Ao39 t335.length co39] 25 (0, 0)) (by (with_reducible repeat (first | refine qAg ?_ _ | refine qAh ?_ | refine blk_alloc ?_ _)); exact BK338.out) k_ hk_.2.1)⟩)) (qAj (by repeat (first | (with_reducible first | exact HB.out | apply qAd | apply qAc | apply qAe | refine qAf ?_ GE338.out) | exact HB.out))))
                have n6_ := Aside0.mk (Kd.R_lower (Kd.R_new' (Kd.R_new' ho1 (Kd.R_lt (by (with_reducible repeat (first | apply Kd.R_alloc | apply Kd.R_drewN | apply Kd.R_drew)); exact HO_7.out))) (Kd.R_lt (by (with_reducible repeat (first | apply Kd.R_alloc | apply Kd.R_drewN | apply Kd.R_drew)); exact HO337.out))) (qAj (by repeat (first | (with_reducible first | exact HB.out | apply qAd | apply qAc | apply qAe | refine qAf ?_ GE338.out) | exact HB.out))))
                have n7_ := Aside0.mk (qAk (g := gb338) (o := .cells #[.int .i64 t328, .bool t329, .int .i64 t330, .string t331, .slice Ao38 t332.length co38, .slice Ao39 t335.length co39] 25 (0, 0)) (by (with_reducible repeat (first | refine qAg ?_ _ | refine qAh ?_ | refine blk_alloc ?_ _)); exact BK338.out) hb)
                have n8_ := Aside0.mk (qAi (by repeat (first | (with_reducible first | exact HB.out | apply qAd | apply qAc | apply qAe | refine qAf ?_ GE338.out) | exact HB.out)) hb)
                clear HO_5
                clear HO_6
                clear HO_7
                clear HO334
                clear HO337
                clear BK338
                clear HB
                have HO_5 := n0_
                have HO_6 := n1_
                have HO_7 := n2_
                have HO334 := n3_
                have HO337 := n4_
                have HO346 := n5_
                have HO349 := n6_
                have BK338 := n7_
                have HB := n8_
                clear n0_ n1_ n2_ n3_ n4_ n5_ n6_ n7_ n8_
                (try clear hb)
                (try clear hb2)
                (try clear hk)
                (try clear hi)
                (try clear ho0)
                (try clear ho1)
                obtain ⟨Ao54, co54, eo54⟩ := Kd.N_slice HO346.out
                (first | subst eo54 | (injection eo54 with f1_ f2_ f3_; have f4_ := f1_.symm; have f5_ := f3_.symm; clear f1_ f2_ f3_; subst f4_; subst f5_))
                obtain ⟨Ao55, co55, eo55⟩ := Kd.R_slice HO349.out
                (first | subst eo55 | (injection eo55 with f1_ f2_ f3_; have f4_ := f1_.symm; have f5_ := f3_.symm; clear f1_ f2_ f3_; subst f4_; subst f5_))
                refine hK.out _ _ ⟨(qAa BK338.out 0).trans rfl, (qAa BK338.out 1).trans rfl, (qAa BK338.out 2).trans rfl, (qAa BK338.out 3).trans rfl, (qAa BK338.out 4).trans rfl, (qAa BK338.out 5).trans rfl⟩ (fun hHeld => ?_)
                clear hK K
                refine norm_ (a' := ?_) ?_ ?_
                rotate_left
                ·show Act.put _ (some 114) _ = _
                 simp only [Act.put, List.setIfInBounds_toArray, List.set_cons_zero, List.set_cons_succ, i64_w, i32_w]
                 rfl
                refine one_ (i := 31) (N := some 115) (hogsheadlaw15_ValueKeys.bm 36 4294967295) rfl rfl (one_of HT_.out (by kernel_rfl)) (by decide) (fun K hK => ?_)
                refine goes_ Tryd.func23 (by kernel_rfl) rfl #[.agg #[.int .i64 t328, .bool t329, .int .i64 t330, .string t331, .slice Ao38 t332.length co38, .slice Ao39 t335.length co39], .agg #[.int .i64 t340, .bool t341, .int .i64 t342, .string t343, .slice Ao54 t344.length co54, .slice Ao55 t347.length co55]] (by rfl) rfl rfl (by (try simp only [List.map_toArray, List.map_cons, List.map_nil]); first | done | rfl | (simp only [List.length_drop, List.length_take]; rfl)) ?_
                with_reducible refine (value_Same.calls t328 t329 t330 t331 _ _ t332 _ _ t335 t340 t341 t342 t343 _ _ t344 _ _ t347 t350 _ ?side1 ?side2 ?side3 ?side4 ?side5 ?side6 ?side7 ?side8 A47.out).mono ?_
                (case side1 => repeat (first | exact (Kd.N_reads' HO334.out).2.2 | (with_reducible refine Kd.C_alloc ?_ _) | (with_reducible refine Kd.C_drewN ?_ _) | (with_reducible refine Kd.C_drew ?_)))
                (case side2 => exact (Kd.N_reads' HO334.out).2.1)
                (case side3 => repeat (first | exact (Kd.R_reads' HO337.out).2.2 | (with_reducible refine Kd.C_alloc ?_ _) | (with_reducible refine Kd.C_drewN ?_ _) | (with_reducible refine Kd.C_drew ?_)))
                (case side4 => exact (Kd.R_reads' HO337.out).2.1)
                (case side5 => repeat (first | exact (Kd.N_reads' HO346.out).2.2 | (with_reducible refine Kd.C_alloc ?_ _) | (with_reducible refine Kd.C_drewN ?_ _) | (with_reducible refine Kd.C_drew ?_)))
                (case side6 => exact (Kd.N_reads' HO346.out).2.1)
                (case side7 => repeat (first | exact (Kd.R_reads' HO349.out).2.2 | (with_reducible refine Kd.C_alloc ?_ _) | (with_reducible refine Kd.C_drewN ?_ _) | (with_reducible refine Kd.C_drew ?_)))
                (case side8 => exact (Kd.R_reads' HO349.out).2.1)
                rintro e w56 ⟨rfl, hb⟩
                refine ⟨_, rfl, ?_⟩
                have n0_ := Aside0.mk (Kd.N_below (by (with_reducible repeat (first | apply Kd.N_alloc | apply Kd.N_drewN | apply Kd.N_drew)); exact HO_5.out) hb)
                have n1_ := Aside0.mk (Kd.N_below (by (with_reducible repeat (first | apply Kd.N_alloc | apply Kd.N_drewN | apply Kd.N_drew)); exact HO_6.out) hb)
                have n2_ := Aside0.mk (Kd.R_below (by (with_reducible repeat (first | apply Kd.R_alloc | apply Kd.R_drewN | apply Kd.R_drew)); exact HO_7.out) hb)
                have n3_ := Aside0.mk (Kd.N_below (by (with_reducible repeat (first | apply Kd.N_alloc | apply Kd.N_drewN | apply Kd.N_drew)); exact HO334.out) hb)
                have n4_ := Aside0.mk (Kd.R_below (by (with_reducible repeat (first | apply Kd.R_alloc | apply Kd.R_drewN | apply Kd.R_drew)); exact HO337.out) hb)
                have n5_ := Aside0.mk (Kd.N_below (by (with_reducible repeat (first | apply Kd.N_alloc | apply Kd.N_drewN | apply Kd.N_drew)); exact HO346.out) hb)
                have n6_ := Aside0.mk (Kd.R_below (by (with_reducible repeat (first | apply Kd.R_alloc | apply Kd.R_drewN | apply Kd.R_drew)); exact HO349.out) hb)
                have n7_ := Aside0.mk (qAk (g := gb338) (o := .cells #[.int .i64 t328, .bool t329, .int .i64 t330, .string t331, .slice Ao38 t332.length co38, .slice Ao39 t335.length co39] 25 (0, 0)) (by (with_reducible repeat (first | refine qAg ?_ _ | refine qAh ?_ | refine blk_alloc ?_ _)); exact BK338.out) hb)
                have n8_ := Aside0.mk (qAi (by repeat (first | (with_reducible first | exact HB.out | apply qAd | apply qAc | apply qAe | refine qAf ?_ GE338.out) | exact HB.out)) hb)
                clear HO_5
                clear HO_6
                clear HO_7
                clear HO334
                clear HO337
                clear HO346
                clear HO349
                clear BK338
                clear HB
                have HO_5 := n0_
                have HO_6 := n1_
                have HO_7 := n2_
                have HO334 := n3_
                have HO337 := n4_
                have HO346 := n5_
                have HO349 := n6_
                have BK338 := n7_
                have HB := n8_
                clear n0_ n1_ n2_ n3_ n4_ n5_ n6_ n7_ n8_
                (try clear hb)
                (try clear hb2)
                (try clear hk)
                (try clear hi)
                refine hK.out _ _ ⟨(qAa BK338.out 0).trans rfl, (qAa BK338.out 1).trans rfl, (qAa BK338.out 2).trans rfl, (qAa BK338.out 3).trans rfl, (qAa BK338.out 4).trans rfl, (qAa BK338.out 5).trans rfl⟩ (fun hHeld => ?_)
                clear hK K
                refine norm_ (a' := ?_) ?_ ?_
                rotate_left
                ·show Act.put _ (some 115) _ = _
                 simp only [Act.put, List.setIfInBounds_toArray, List.set_cons_zero, List.set_cons_succ, i64_w, i32_w]
                 rfl
                refine pure_ (i := 32) (N := some 116) (v := ?_) (a' := ?_) (hogsheadlaw15_ValueKeys.bm 36 8589934591) rfl rfl (any_of HT_.out (by kernel_rfl)) (fun _ _ _ h => h) (Or.inl ⟨by rfl, ?_⟩) ?_ ?_
                rotate_left
                ·intro w'
                 go_simp
                 with_reducible rfl
                rotate_left
                ·simp only [Act.put, List.setIfInBounds_toArray, List.set_cons_zero, List.set_cons_succ, i64_w, i32_w]
                 rfl
                refine pure_ (i := 33) (N := some 117) (v := ?_) (a' := ?_) (hogsheadlaw15_ValueKeys.bm 36 17179869183) rfl rfl (any_of HT_.out (by kernel_rfl)) (fun _ _ _ h => h) (Or.inl ⟨by rfl, ?_⟩) ?_ ?_
                rotate_left
                ·intro w'
                 go_simp
                 with_reducible rfl
                rotate_left
                ·simp only [Act.put, List.setIfInBounds_toArray, List.set_cons_zero, List.set_cons_succ, i64_w, i32_w]
                 rfl
                refine pure_ (i := 34) (N := some 118) (v := ?_) (a' := ?_) (hogsheadlaw15_ValueKeys.bm 36 34359738367) rfl rfl (any_of HT_.out (by kernel_rfl)) (fun _ _ _ h => h) (Or.inl ⟨by rfl, ?_⟩) ?_ ?_
                rotate_left
                ·intro w'
                 go_simp
                 with_reducible rfl
                rotate_left
                ·simp only [Act.put, List.setIfInBounds_toArray, List.set_cons_zero, List.set_cons_succ, i64_w, i32_w]
                 rfl
                refine pure_ (i := 35) (N := some 119) (v := ?_) (a' := ?_) (hogsheadlaw15_ValueKeys.bm 36 68719476735) rfl rfl (any_of HT_.out (by kernel_rfl)) (fun _ _ _ h => h) (Or.inl ⟨by rfl, ?_⟩) ?_ ?_
                rotate_left
                ·intro w'
                 go_simp
                 with_reducible rfl
                rotate_left
                ·simp only [Act.put, List.setIfInBounds_toArray, List.set_cons_zero, List.set_cons_succ, i64_w, i32_w]
                 rfl
                refine done_ (qBm HT_.out (by kernel_rfl)) ?_
                try go_wp2
                go_meet
                case rel => exact ⟨_, (!t350), (by first | rfl | (simp; done) | (simp [*]; done) | exact congrArg Value.bool (nil_ne _) | exact congrArg Value.bool (nil_eq _) | exact congrArg Value.bool (nil_ne' _)), H', ⟨by have := HJ2.out; have := HK2.out; have := HK3.out; first | omega | exact Nat.le_refl _⟩, ⟨by (with_reducible repeat (first | apply Kd.N_alloc | apply Kd.N_drewN | apply Kd.N_drew)); exact Kd.N_mono HO_5.out (fun _ hk => ⟨hk.1.1.2.2.1, ⟨hk.1.1.2.2.2.1, hk.1.1.2.2.2.2⟩⟩)⟩, ⟨by (with_reducible repeat (first | apply Kd.N_alloc | apply Kd.N_drewN | apply Kd.N_drew)); exact Kd.N_mono HO334.out (fun _ hk => ⟨hk.1.1.1, ⟨hk.1.1.2.2.2.1, hk.1.1.2.2.2.2⟩⟩)⟩, ⟨by (with_reducible repeat (first | apply Kd.R_alloc | apply Kd.R_drewN | apply Kd.R_drew)); exact Kd.R_mono HO337.out (fun _ hk => trivial)⟩, ⟨by (with_reducible repeat (first | refine qAg ?_ _ | refine qAh ?_ | refine blk_alloc ?_ _)); exact BK338.out⟩, ⟨by repeat (first | (with_reducible first | exact HB.out | apply qAd | apply qAc | apply qAe | refine qAf ?_ GE338.out) | exact HB.out)⟩⟩
               ·rw [if_neg c45] at H
                have c45b0 : ((t335.length : Int) == (l0.length : Int)) = false := beq_eq_false_iff_ne.mpr c45
                have c45b1 : ((t335.length : Int) != (l0.length : Int)) = true := bne_iff_ne.mpr c45
                have c45b2 : (t335.length == l0.length) = false := by first | simpa using c45 | (simp at c45 ⊢; omega)
                exact absurd (H.trans (congrArg some hr_.out)) (hogsheadlaw15_ValueKeys.j4_no _ _ _ _ _ _ _ _ _)
              ·replace c44 := Bool.eq_false_iff.mpr c44
               subst c44
               have H1 : (hogsheadlaw15_ValueKeys.j4 k3 l0 x5_2 false t328 t329 t330 t331 t332 t335) = some r := by rw [if_neg (show ¬ (false = true) by decide)] at H; exact H
               clear H
               have H := H1
               clear H1
               have H' := Aside0.mk H
               clear H
               try go_wp2
               have n0_ : Aside0 (Kd.N k25 25 ((((((w36.setCell ⟨gb338, 0, none⟩ (.int .i64 t328)).setCell ⟨gb338, 1, none⟩ (.bool t329)).setCell ⟨gb338, 2, none⟩ (.int .i64 t330)).setCell ⟨gb338, 3, none⟩ (.string t331)).setCell ⟨gb338, 4, none⟩ (.slice Ao38 t332.length co38)).setCell ⟨gb338, 5, none⟩ (.slice Ao39 t335.length co39)) w.heap.size (fun k_ => some k_ ≠ (u6 : Value).ownBlock ∧ some k_ ≠ (u7 : Value).ownBlock ∧ some k_ ≠ (.slice Ao38 t332.length co38 : Value).ownBlock ∧ some k_ ≠ (.slice Ao39 t335.length co39 : Value).ownBlock ∧ k_ ≠ gb338) (.slice Ao34 x5_2.length co34) x5_2) := ⟨by (with_reducible repeat (first | apply Kd.N_alloc | apply Kd.N_drewN | apply Kd.N_drew)); exact Kd.N_mono (Kd.N_far (p := ⟨gb338, 5, none⟩) (Kd.N_far (p := ⟨gb338, 4, none⟩) (Kd.N_far (p := ⟨gb338, 3, none⟩) (Kd.N_far (p := ⟨gb338, 2, none⟩) (Kd.N_far (p := ⟨gb338, 1, none⟩) (Kd.N_far (p := ⟨gb338, 0, none⟩) (Kd.N_mono HO_5.out (fun k_ hk => (⟨hk, hk.2⟩ : _ ∧ k_ ≠ gb338))) (fun _ hk => hk.2) (.int .i64 t328)) (fun _ hk => hk.2) (.bool t329)) (fun _ hk => hk.2) (.int .i64 t330)) (fun _ hk => hk.2) (.string t331)) (fun _ hk => hk.2) (.slice Ao38 t332.length co38)) (fun _ hk => hk.2) (.slice Ao39 t335.length co39)) (fun _ hk => ⟨hk.1.1.1.1.1, ⟨hk.1.1.1.1.2, ⟨hk.1.1.1.2, ⟨hk.1.1.2, hk.1.2⟩⟩⟩⟩)⟩
               have n1_ : Aside0 (Kd.N k25 25 ((((((w36.setCell ⟨gb338, 0, none⟩ (.int .i64 t328)).setCell ⟨gb338, 1, none⟩ (.bool t329)).setCell ⟨gb338, 2, none⟩ (.int .i64 t330)).setCell ⟨gb338, 3, none⟩ (.string t331)).setCell ⟨gb338, 4, none⟩ (.slice Ao38 t332.length co38)).setCell ⟨gb338, 5, none⟩ (.slice Ao39 t335.length co39)) w.heap.size (fun k_ => some k_ ≠ (.slice Ao34 x5_2.length co34 : Value).ownBlock ∧ some k_ ≠ (u7 : Value).ownBlock ∧ some k_ ≠ (.slice Ao38 t332.length co38 : Value).ownBlock ∧ some k_ ≠ (.slice Ao39 t335.length co39 : Value).ownBlock ∧ k_ ≠ gb338) u6 x6_3) := ⟨by (with_reducible repeat (first | apply Kd.N_alloc | apply Kd.N_drewN | apply Kd.N_drew)); exact Kd.N_mono (Kd.N_far (p := ⟨gb338, 5, none⟩) (Kd.N_far (p := ⟨gb338, 4, none⟩) (Kd.N_far (p := ⟨gb338, 3, none⟩) (Kd.N_far (p := ⟨gb338, 2, none⟩) (Kd.N_far (p := ⟨gb338, 1, none⟩) (Kd.N_far (p := ⟨gb338, 0, none⟩) (Kd.N_mono HO_6.out (fun k_ hk => (⟨hk, hk.2⟩ : _ ∧ k_ ≠ gb338))) (fun _ hk => hk.2) (.int .i64 t328)) (fun _ hk => hk.2) (.bool t329)) (fun _ hk => hk.2) (.int .i64 t330)) (fun _ hk => hk.2) (.string t331)) (fun _ hk => hk.2) (.slice Ao38 t332.length co38)) (fun _ hk => hk.2) (.slice Ao39 t335.length co39)) (fun _ hk => ⟨hk.1.1.1.1.1, ⟨hk.1.1.1.1.2, ⟨hk.1.1.1.2, ⟨hk.1.1.2, hk.1.2⟩⟩⟩⟩)⟩
               have n2_ : Aside0 (Kd.R Kd.string 9 ((((((w36.setCell ⟨gb338, 0, none⟩ (.int .i64 t328)).setCell ⟨gb338, 1, none⟩ (.bool t329)).setCell ⟨gb338, 2, none⟩ (.int .i64 t330)).setCell ⟨gb338, 3, none⟩ (.string t331)).setCell ⟨gb338, 4, none⟩ (.slice Ao38 t332.length co38)).setCell ⟨gb338, 5, none⟩ (.slice Ao39 t335.length co39)) w.heap.size (fun k_ => some k_ ≠ (.slice Ao39 t335.length co39 : Value).ownBlock) u7 x7_3) := ⟨by (with_reducible repeat (first | apply Kd.R_alloc | apply Kd.R_drewN | apply Kd.R_drew)); exact Kd.R_mono (Kd.R_far (p := ⟨gb338, 5, none⟩) (Kd.R_far (p := ⟨gb338, 4, none⟩) (Kd.R_far (p := ⟨gb338, 3, none⟩) (Kd.R_far (p := ⟨gb338, 2, none⟩) (Kd.R_far (p := ⟨gb338, 1, none⟩) (Kd.R_far (p := ⟨gb338, 0, none⟩) (Kd.R_types HO_7.out BK338.out (by decide)) (fun _ hk => hk.2) (.int .i64 t328)) (fun _ hk => hk.2) (.bool t329)) (fun _ hk => hk.2) (.int .i64 t330)) (fun _ hk => hk.2) (.string t331)) (fun _ hk => hk.2) (.slice Ao38 t332.length co38)) (fun _ hk => hk.2) (.slice Ao39 t335.length co39)) (fun _ hk => hk.1.2)⟩
               have n3_ : Aside0 (Kd.N k25 25 ((((((w36.setCell ⟨gb338, 0, none⟩ (.int .i64 t328)).setCell ⟨gb338, 1, none⟩ (.bool t329)).setCell ⟨gb338, 2, none⟩ (.int .i64 t330)).setCell ⟨gb338, 3, none⟩ (.string t331)).setCell ⟨gb338, 4, none⟩ (.slice Ao38 t332.length co38)).setCell ⟨gb338, 5, none⟩ (.slice Ao39 t335.length co39)) w.heap.size (fun k_ => some k_ ≠ (.slice Ao34 x5_2.length co34 : Value).ownBlock ∧ some k_ ≠ (u6 : Value).ownBlock ∧ some k_ ≠ (u7 : Value).ownBlock ∧ some k_ ≠ (.slice Ao39 t335.length co39 : Value).ownBlock ∧ k_ ≠ gb338) (.slice Ao38 t332.length co38) t332) := ⟨by (with_reducible repeat (first | apply Kd.N_alloc | apply Kd.N_drewN | apply Kd.N_drew)); exact Kd.N_mono (Kd.N_far (p := ⟨gb338, 5, none⟩) (Kd.N_far (p := ⟨gb338, 4, none⟩) (Kd.N_far (p := ⟨gb338, 3, none⟩) (Kd.N_far (p := ⟨gb338, 2, none⟩) (Kd.N_far (p := ⟨gb338, 1, none⟩) (Kd.N_far (p := ⟨gb338, 0, none⟩) (Kd.N_mono HO334.out (fun k_ hk => (⟨hk, hk.2⟩ : _ ∧ k_ ≠ gb338))) (fun _ hk => hk.2) (.int .i64 t328)) (fun _ hk => hk.2) (.bool t329)) (fun _ hk => hk.2) (.int .i64 t330)) (fun _ hk => hk.2) (.string t331)) (fun _ hk => hk.2) (.slice Ao38 t332.length co38)) (fun _ hk => hk.2) (.slice Ao39 t335.length co39)) (fun _ hk => ⟨hk.1.1.2.1, ⟨hk.1.1.2.2.1, ⟨hk.1.1.2.2.2, ⟨hk.1.1.1, hk.1.2⟩⟩⟩⟩)⟩
               have n4_ : Aside0 (Kd.R Kd.string 9 ((((((w36.setCell ⟨gb338, 0, none⟩ (.int .i64 t328)).setCell ⟨gb338, 1, none⟩ (.bool t329)).setCell ⟨gb338, 2, none⟩ (.int .i64 t330)).setCell ⟨gb338, 3, none⟩ (.string t331)).setCell ⟨gb338, 4, none⟩ (.slice Ao38 t332.length co38)).setCell ⟨gb338, 5, none⟩ (.slice Ao39 t335.length co39)) w.heap.size (fun k_ => some k_ ≠ (u7 : Value).ownBlock) (.slice Ao39 t335.length co39) t335) := ⟨by (with_reducible repeat (first | apply Kd.R_alloc | apply Kd.R_drewN | apply Kd.R_drew)); exact Kd.R_mono (Kd.R_far (p := ⟨gb338, 5, none⟩) (Kd.R_far (p := ⟨gb338, 4, none⟩) (Kd.R_far (p := ⟨gb338, 3, none⟩) (Kd.R_far (p := ⟨gb338, 2, none⟩) (Kd.R_far (p := ⟨gb338, 1, none⟩) (Kd.R_far (p := ⟨gb338, 0, none⟩) (Kd.R_types HO337.out BK338.out (by decide)) (fun _ hk => hk.2) (.int .i64 t328)) (fun _ hk => hk.2) (.bool t329)) (fun _ hk => hk.2) (.int .i64 t330)) (fun _ hk => hk.2) (.string t331)) (fun _ hk => hk.2) (.slice Ao38 t332.length co38)) (fun _ hk => hk.2) (.slice Ao39 t335.length co39)) (fun _ hk => hk.1.2)⟩
               have n5_ : Aside0 (((((((w36.setCell ⟨gb338, 0, none⟩ (.int .i64 t328)).setCell ⟨gb338, 1, none⟩ (.bool t329)).setCell ⟨gb338, 2, none⟩ (.int .i64 t330)).setCell ⟨gb338, 3, none⟩ (.string t331)).setCell ⟨gb338, 4, none⟩ (.slice Ao38 t332.length co38)).setCell ⟨gb338, 5, none⟩ (.slice Ao39 t335.length co39)).heap[gb338]? = some (.cells #[.int .i64 t328, .bool t329, .int .i64 t330, .string t331, .slice Ao38 t332.length co38, .slice Ao39 t335.length co39] 25 (0, 0))) := ⟨by (with_reducible repeat (first | refine qAg ?_ _ | refine qAh ?_ | refine blk_alloc ?_ _)); refine qAv (cs := #[.int .i64 t328, .bool t329, .int .i64 t330, .string t331, .slice Ao38 t332.length co38, .slice none 0 0]) ?_ 5 _ rfl; (with_reducible repeat (first | refine qAg ?_ _ | refine qAh ?_ | refine blk_alloc ?_ _)); refine qAv (cs := #[.int .i64 t328, .bool t329, .int .i64 t330, .string t331, .slice none 0 0, .slice none 0 0]) ?_ 4 _ rfl; (with_reducible repeat (first | refine qAg ?_ _ | refine qAh ?_ | refine blk_alloc ?_ _)); refine qAv (cs := #[.int .i64 t328, .bool t329, .int .i64 t330, .string (⟨#[]⟩ : ByteArray), .slice none 0 0, .slice none 0 0]) ?_ 3 _ rfl; (with_reducible repeat (first | refine qAg ?_ _ | refine qAh ?_ | refine blk_alloc ?_ _)); refine qAv (cs := #[.int .i64 t328, .bool t329, .int .i64 0, .string (⟨#[]⟩ : ByteArray), .slice none 0 0, .slice none 0 0]) ?_ 2 _ rfl; (with_reducible repeat (first | refine qAg ?_ _ | refine qAh ?_ | refine blk_alloc ?_ _)); refine qAv (cs := #[.int .i64 t328, .bool false, .int .i64 0, .string (⟨#[]⟩ : ByteArray), .slice none 0 0, .slice none 0 0]) ?_ 1 _ rfl; (with_reducible repeat (first | refine qAg ?_ _ | refine qAh ?_ | refine blk_alloc ?_ _)); refine qAv (cs := #[.int .i64 0, .bool false, .int .i64 0, .string (⟨#[]⟩ : ByteArray), .slice none 0 0, .slice none 0 0]) ?_ 0 _ rfl; (with_reducible repeat (first | refine qAg ?_ _ | refine qAh ?_ | refine blk_alloc ?_ _)); exact BK338.out⟩
               have n6_ : Aside0 (Below w.heap.size w ((((((w36.setCell ⟨gb338, 0, none⟩ (.int .i64 t328)).setCell ⟨gb338, 1, none⟩ (.bool t329)).setCell ⟨gb338, 2, none⟩ (.int .i64 t330)).setCell ⟨gb338, 3, none⟩ (.string t331)).setCell ⟨gb338, 4, none⟩ (.slice Ao38 t332.length co38)).setCell ⟨gb338, 5, none⟩ (.slice Ao39 t335.length co39))) := ⟨by repeat (first | (with_reducible first | exact HB.out | apply qAd | apply qAc | apply qAe | refine qAf ?_ GE338.out) | exact HB.out)⟩
               (try clear HO_5)
               (try clear HO_6)
               (try clear HO_7)
               (try clear HO334)
               (try clear HO337)
               (try clear BK338)
               (try clear HB)
               generalize ((((((w36.setCell ⟨gb338, 0, none⟩ (.int .i64 t328)).setCell ⟨gb338, 1, none⟩ (.bool t329)).setCell ⟨gb338, 2, none⟩ (.int .i64 t330)).setCell ⟨gb338, 3, none⟩ (.string t331)).setCell ⟨gb338, 4, none⟩ (.slice Ao38 t332.length co38)).setCell ⟨gb338, 5, none⟩ (.slice Ao39 t335.length co39)) = w60 at n0_ n1_ n2_ n3_ n4_ n5_ n6_ ⊢
               have HO_5 := n0_
               have HO_6 := n1_
               have HO_7 := n2_
               have HO334 := n3_
               have HO337 := n4_
               have BK338 := n5_
               have HB := n6_
               clear n0_ n1_ n2_ n3_ n4_ n5_ n6_
               have n0_ := Aside0.mk (Kd.N_drew HO_5.out)
               have n1_ := Aside0.mk (Kd.N_drew HO_6.out)
               have n2_ := Aside0.mk (Kd.R_drew HO_7.out)
               have n3_ := Aside0.mk (Kd.N_drew HO334.out)
               have n4_ := Aside0.mk (Kd.R_drew HO337.out)
               have n5_ := Aside0.mk (qAh BK338.out)
               have n6_ := Aside0.mk (qAe HB.out)
               clear HO_5
               clear HO_6
               clear HO_7
               clear HO334
               clear HO337
               clear BK338
               clear HB
               have HO_5 := n0_
               have HO_6 := n1_
               have HO_7 := n2_
               have HO334 := n3_
               have HO337 := n4_
               have BK338 := n5_
               have HB := n6_
               clear n0_ n1_ n2_ n3_ n4_ n5_ n6_
               refine start_ (n := 36) (S := fun w' => w'.cell? ⟨gb338, 0, none⟩ = some (.int .i64 t328) ∧ w'.cell? ⟨gb338, 1, none⟩ = some (.bool t329) ∧ w'.cell? ⟨gb338, 2, none⟩ = some (.int .i64 t330) ∧ w'.cell? ⟨gb338, 3, none⟩ = some (.string t331) ∧ w'.cell? ⟨gb338, 4, none⟩ = some (.slice Ao38 t332.length co38) ∧ w'.cell? ⟨gb338, 5, none⟩ = some (.slice Ao39 t335.length co39)) (ds := []) #[false, false, false, false, false, false, false, false, false, false, false, false, false, false, false, false, false, false, false, false, false, false, false, false, false, false, false, false, false, false, false, false, false, false, false, false] (by kernel_rfl) rfl rfl ⟨(qAa BK338.out 0).trans rfl, (qAa BK338.out 1).trans rfl, (qAa BK338.out 2).trans rfl, (qAa BK338.out 3).trans rfl, (qAa BK338.out 4).trans rfl, (qAa BK338.out 5).trans rfl⟩ (fun hHeld => ?_); refine qA8 hogsheadlaw15_ValueKeys.tab20 hogsheadlaw15_ValueKeys.bits20 (fun HT_ HW_ => ?_)
               generalize w60.drew = w61 at HO_5 HO_6 HO_7 HO334 HO337 BK338 HB hHeld ⊢
               refine take_ (i := 0) (N := some 84) (v := ?_) (a' := ?_) (hogsheadlaw15_ValueKeys.bm 36 1) rfl rfl (qAt HT_.out HW_.out (by kernel_rfl)) (fun _ _ _ h => h) (Or.inl ⟨by rfl, ?_⟩) hHeld ?_ ?_
               rotate_left
               ·rintro w' ⟨s0, s1, s2, s3, s4, s5⟩
                go_simp
                with_reducible rfl
               rotate_left
               ·simp only [Act.put, List.setIfInBounds_toArray, List.set_cons_zero, List.set_cons_succ, i64_w, i32_w]
                rfl
               refine one_ (i := 1) (N := some 85) (hogsheadlaw15_ValueKeys.bm 36 3) rfl rfl (one_of HT_.out (by kernel_rfl)) (by decide) (fun K hK => ?_)
               refine goes_ Tryd.func21 (by kernel_rfl) rfl #[.agg #[.int .i64 t328, .bool t329, .int .i64 t330, .string t331, .slice Ao38 t332.length co38, .slice Ao39 t335.length co39]] (by rfl) rfl rfl (by (try simp only [List.map_toArray, List.map_cons, List.map_nil]); first | done | rfl | (simp only [List.length_drop, List.length_take]; rfl)) ?_
               with_reducible refine (value_May.calls t328 t329 t330 t331 _ _ t332 _ _ t335 true _ ?side1 ?side2 ?side3 ?side4 A40.out).mono ?_
               (case side1 => repeat (first | exact (Kd.N_reads' HO334.out).2.2 | (with_reducible refine Kd.C_alloc ?_ _) | (with_reducible refine Kd.C_drewN ?_ _) | (with_reducible refine Kd.C_drew ?_)))
               (case side2 => exact (Kd.N_reads' HO334.out).2.1)
               (case side3 => repeat (first | exact (Kd.R_reads' HO337.out).2.2 | (with_reducible refine Kd.C_alloc ?_ _) | (with_reducible refine Kd.C_drewN ?_ _) | (with_reducible refine Kd.C_drew ?_)))
               (case side4 => exact (Kd.R_reads' HO337.out).2.1)
               rintro e w62 ⟨rfl, hb⟩
               refine ⟨_, rfl, ?_⟩
               have n0_ := Aside0.mk (Kd.N_below (by (with_reducible repeat (first | apply Kd.N_alloc | apply Kd.N_drewN | apply Kd.N_drew)); exact HO_5.out) hb)
               have n1_ := Aside0.mk (Kd.N_below (by (with_reducible repeat (first | apply Kd.N_alloc | apply Kd.N_drewN | apply Kd.N_drew)); exact HO_6.out) hb)
               have n2_ := Aside0.mk (Kd.R_below (by (with_reducible repeat (first | apply Kd.R_alloc | apply Kd.R_drewN | apply Kd.R_drew)); exact HO_7.out) hb)
               have n3_ := Aside0.mk (Kd.N_below (by (with_reducible repeat (first | apply Kd.N_alloc | apply Kd.N_drewN | apply Kd.N_drew)); exact HO334.out) hb)
               have n4_ := Aside0.mk (Kd.R_below (by (with_reducible repeat (first | apply Kd.R_alloc | apply Kd.R_drewN | apply Kd.R_drew)); exact HO337.out) hb)
               have n5_ := Aside0.mk (qAk (g := gb338) (o := .cells #[.int .i64 t328, .bool t329, .int .i64 t330, .string t331, .slice Ao38 t332.length co38, .slice Ao39 t335.length co39] 25 (0, 0)) (by (with_reducible repeat (first | refine qAg ?_ _ | refine qAh ?_ | refine blk_alloc ?_ _)); exact BK338.out) hb)
               have n6_ := Aside0.mk (qAi (by repeat (first | (with_reducible first | exact HB.out | apply qAd | apply qAc | apply qAe | refine qAf ?_ GE338.out) | exact HB.out)) hb)
               clear HO_5
               clear HO_6
               clear HO_7
               clear HO334
               clear HO337
               clear BK338
               clear HB
               have HO_5 := n0_
               have HO_6 := n1_
               have HO_7 := n2_
               have HO334 := n3_
               have HO337 := n4_
               have BK338 := n5_
               have HB := n6_
               clear n0_ n1_ n2_ n3_ n4_ n5_ n6_
               (try clear hb)
               (try clear hb2)
               (try clear hk)
               (try clear hi)
               refine hK.out _ _ ⟨(qAa BK338.out 0).trans rfl, (qAa BK338.out 1).trans rfl, (qAa BK338.out 2).trans rfl, (qAa BK338.out 3).trans rfl, (qAa BK338.out 4).trans rfl, (qAa BK338.out 5).trans rfl⟩ (fun hHeld => ?_)
               clear hK K
               refine norm_ (a' := ?_) ?_ ?_
               rotate_left
               ·show Act.put _ (some 85) _ = _
                simp only [Act.put, List.setIfInBounds_toArray, List.set_cons_zero, List.set_cons_succ, i64_w, i32_w]
                rfl
               refine pure_ (i := 2) (N := some 86) (v := ?_) (a' := ?_) (hogsheadlaw15_ValueKeys.bm 36 7) rfl rfl (any_of HT_.out (by kernel_rfl)) (fun _ _ _ h => h) (Or.inl ⟨by rfl, ?_⟩) ?_ ?_
               rotate_left
               ·intro w'
                go_simp
                with_reducible rfl
               rotate_left
               ·simp only [Act.put, List.setIfInBounds_toArray, List.set_cons_zero, List.set_cons_succ, i64_w, i32_w]
                rfl
               refine pure_ (i := 3) (N := some 87) (v := ?_) (a' := ?_) (hogsheadlaw15_ValueKeys.bm 36 15) rfl rfl (any_of HT_.out (by kernel_rfl)) (fun _ _ _ h => h) (Or.inl ⟨by rfl, ?_⟩) ?_ ?_
               rotate_left
               ·intro w'
                go_simp
                with_reducible rfl
               rotate_left
               ·simp only [Act.put, List.setIfInBounds_toArray, List.set_cons_zero, List.set_cons_succ, i64_w, i32_w]
                rfl
               refine pure_ (i := 4) (N := some 88) (v := ?_) (a' := ?_) (hogsheadlaw15_ValueKeys.bm 36 31) rfl rfl (any_of HT_.out (by kernel_rfl)) (fun _ _ _ h => h) (Or.inl ⟨by rfl, ?_⟩) ?_ ?_
               rotate_left
               ·intro w'
                go_simp
                with_reducible rfl
               rotate_left
               ·simp only [Act.put, List.setIfInBounds_toArray, List.set_cons_zero, List.set_cons_succ, i64_w, i32_w]
                rfl
               refine take_ (i := 5) (N := some 89) (v := ?_) (a' := ?_) (hogsheadlaw15_ValueKeys.bm 36 63) rfl rfl (qAt HT_.out HW_.out (by kernel_rfl)) (fun _ _ _ h => h) (Or.inl ⟨by rfl, ?_⟩) hHeld ?_ ?_
               rotate_left
               ·rintro w' ⟨s0, s1, s2, s3, s4, s5⟩
                go_simp
                with_reducible rfl
               rotate_left
               ·simp only [Act.put, List.setIfInBounds_toArray, List.set_cons_zero, List.set_cons_succ, i64_w, i32_w]
                rfl
               refine pure_ (i := 6) (N := some 90) (v := ?_) (a' := ?_) (hogsheadlaw15_ValueKeys.bm 36 127) rfl rfl (any_of HT_.out (by kernel_rfl)) (fun _ _ _ h => h) (Or.inl ⟨by rfl, ?_⟩) ?_ ?_
               rotate_left
               ·intro w'
                go_simp
                with_reducible rfl
               rotate_left
               ·simp only [Act.put, List.setIfInBounds_toArray, List.set_cons_zero, List.set_cons_succ, i64_w, i32_w]
                rfl
               refine pure_ (i := 7) (N := some 91) (v := ?_) (a' := ?_) (hogsheadlaw15_ValueKeys.bm 36 255) rfl rfl (any_of HT_.out (by kernel_rfl)) (fun _ _ _ h => h) (Or.inl ⟨by rfl, ?_⟩) ?_ ?_
               rotate_left
               ·intro w'
                go_simp
                with_reducible rfl
               rotate_left
               ·simp only [Act.put, List.setIfInBounds_toArray, List.set_cons_zero, List.set_cons_succ, i64_w, i32_w]
                rfl
               refine pure_ (i := 8) (N := some 92) (v := ?_) (a' := ?_) (hogsheadlaw15_ValueKeys.bm 36 511) rfl rfl (any_of HT_.out (by kernel_rfl)) (fun _ _ _ h => h) (Or.inl ⟨by rfl, ?_⟩) ?_ ?_
               rotate_left
               ·intro w'
                go_simp
                with_reducible rfl
               rotate_left
               ·simp only [Act.put, List.setIfInBounds_toArray, List.set_cons_zero, List.set_cons_succ, i64_w, i32_w]
                rfl
               refine pure_ (i := 9) (N := some 93) (v := ?_) (a' := ?_) (hogsheadlaw15_ValueKeys.bm 36 1023) rfl rfl (any_of HT_.out (by kernel_rfl)) (fun _ _ _ h => h) (Or.inl ⟨by rfl, ?_⟩) ?_ ?_
               rotate_left
               ·intro w'
                go_simp
                with_reducible rfl
               rotate_left
               ·simp only [Act.put, List.setIfInBounds_toArray, List.set_cons_zero, List.set_cons_succ, i64_w, i32_w]
                rfl
               refine pure_ (i := 12) (N := some 96) (v := ?_) (a' := ?_) (hogsheadlaw15_ValueKeys.bm 36 5119) rfl rfl (any_of HT_.out (by kernel_rfl)) (fun _ _ _ h => h) (Or.inl ⟨by rfl, ?_⟩) ?_ ?_
               rotate_left
               ·intro w'
                go_simp
                with_reducible rfl
               rotate_left
               ·simp only [Act.put, List.setIfInBounds_toArray, List.set_cons_zero, List.set_cons_succ, i64_w, i32_w]
                rfl
               refine take_ (i := 10) (N := some 94) (v := ?_) (a' := ?_) (hogsheadlaw15_ValueKeys.bm 36 6143) rfl rfl (qAt HT_.out HW_.out (by kernel_rfl)) (fun _ _ _ h => h) (Or.inl ⟨by rfl, ?_⟩) hHeld ?_ ?_
               rotate_left
               ·rintro w' ⟨s0, s1, s2, s3, s4, s5⟩
                go_simp
                with_reducible rfl
               rotate_left
               ·simp only [Act.put, List.setIfInBounds_toArray, List.set_cons_zero, List.set_cons_succ, i64_w, i32_w]
                rfl
               refine pure_ (i := 11) (N := some 95) (v := ?_) (a' := ?_) (hogsheadlaw15_ValueKeys.bm 36 8191) rfl rfl (any_of HT_.out (by kernel_rfl)) (fun _ _ _ h => h) (Or.inl ⟨by rfl, ?_⟩) ?_ ?_
               rotate_left
               ·intro w'
                go_simp
                with_reducible rfl
               rotate_left
               ·simp only [Act.put, List.setIfInBounds_toArray, List.set_cons_zero, List.set_cons_succ, i64_w, i32_w]
                rfl
               refine take_ (i := 13) (N := some 97) (v := ?_) (a' := ?_) (hogsheadlaw15_ValueKeys.bm 36 16383) rfl rfl (qAt HT_.out HW_.out (by kernel_rfl)) (fun _ _ _ h => h) (Or.inl ⟨by rfl, ?_⟩) hHeld ?_ ?_
               rotate_left
               ·rintro w' ⟨s0, s1, s2, s3, s4, s5⟩
                go_simp
                with_reducible rfl
               rotate_left
               ·simp only [Act.put, List.setIfInBounds_toArray, List.set_cons_zero, List.set_cons_succ, i64_w, i32_w]
                rfl
               refine pure_ (i := 14) (N := some 98) (v := ?_) (a' := ?_) (hogsheadlaw15_ValueKeys.bm 36 32767) rfl rfl (any_of HT_.out (by kernel_rfl)) (fun _ _ _ h => h) (Or.inl ⟨by rfl, ?_⟩) ?_ ?_
               rotate_left
               ·intro w'
                go_simp
                with_reducible rfl
               rotate_left
               ·simp only [Act.put, List.setIfInBounds_toArray, List.set_cons_zero, List.set_cons_succ, i64_w, i32_w]
                rfl
               refine pure_ (i := 15) (N := some 99) (v := ?_) (a' := ?_) (hogsheadlaw15_ValueKeys.bm 36 65535) rfl rfl (any_of HT_.out (by kernel_rfl)) (fun _ _ _ h => h) (Or.inl ⟨by rfl, ?_⟩) ?_ ?_
               rotate_left
               ·intro w'
                go_simp
                with_reducible rfl
               rotate_left
               ·simp only [Act.put, List.setIfInBounds_toArray, List.set_cons_zero, List.set_cons_succ, i64_w, i32_w]
                rfl
               refine pure_ (i := 16) (N := some 100) (v := ?_) (a' := ?_) (hogsheadlaw15_ValueKeys.bm 36 131071) rfl rfl (any_of HT_.out (by kernel_rfl)) (fun _ _ _ h => h) (Or.inl ⟨by rfl, ?_⟩) ?_ ?_
               rotate_left
               ·intro w'
                go_simp
                with_reducible rfl
               rotate_left
               ·simp only [Act.put, List.setIfInBounds_toArray, List.set_cons_zero, List.set_cons_succ, i64_w, i32_w]
                rfl
               refine pure_ (i := 17) (N := some 101) (v := ?_) (a' := ?_) (hogsheadlaw15_ValueKeys.bm 36 262143) rfl rfl (any_of HT_.out (by kernel_rfl)) (fun _ _ _ h => h) (Or.inl ⟨by rfl, ?_⟩) ?_ ?_
               rotate_left
               ·intro w'
                go_simp
                with_reducible rfl
               rotate_left
               ·simp only [Act.put, List.setIfInBounds_toArray, List.set_cons_zero, List.set_cons_succ, i64_w, i32_w]
                rfl
               refine pure_ (i := 18) (N := some 102) (v := ?_) (a' := ?_) (hogsheadlaw15_ValueKeys.bm 36 524287) rfl rfl (any_of HT_.out (by kernel_rfl)) (fun _ _ _ h => h) (Or.inl ⟨by rfl, ?_⟩) ?_ ?_
               rotate_left
               ·intro w'
                go_simp
                with_reducible rfl
               rotate_left
               ·simp only [Act.put, List.setIfInBounds_toArray, List.set_cons_zero, List.set_cons_succ, i64_w, i32_w]
                rfl
               refine pure_ (i := 19) (N := some 103) (v := ?_) (a' := ?_) (hogsheadlaw15_ValueKeys.bm 36 1048575) rfl rfl (any_of HT_.out (by kernel_rfl)) (fun _ _ _ h => h) (Or.inl ⟨by rfl, ?_⟩) ?_ ?_
               rotate_left
               ·intro w'
                go_simp
                with_reducible rfl
               rotate_left
               ·simp only [Act.put, List.setIfInBounds_toArray, List.set_cons_zero, List.set_cons_succ, i64_w, i32_w]
                rfl
               refine pure_ (i := 20) (N := some 104) (v := undef) (a' := ?_) (hogsheadlaw15_ValueKeys.bm 36 2097151) rfl rfl (any_of HT_.out (by kernel_rfl)) (fun _ _ _ h => h) (Or.inr ⟨by rfl, rfl⟩) ?_ ?_
               rotate_left
               ·simp only [Act.put, List.setIfInBounds_toArray, List.set_cons_zero, List.set_cons_succ, i64_w, i32_w]
                rfl
               refine pure_ (i := 21) (N := some 105) (v := undef) (a' := ?_) (hogsheadlaw15_ValueKeys.bm 36 4194303) rfl rfl (any_of HT_.out (by kernel_rfl)) (fun _ _ _ h => h) (Or.inr ⟨by rfl, rfl⟩) ?_ ?_
               rotate_left
               ·simp only [Act.put, List.setIfInBounds_toArray, List.set_cons_zero, List.set_cons_succ, i64_w, i32_w]
                rfl
               refine pure_ (i := 22) (N := some 106) (v := undef) (a' := ?_) (hogsheadlaw15_ValueKeys.bm 36 8388607) rfl rfl (any_of HT_.out (by kernel_rfl)) (fun _ _ _ h => h) (Or.inr ⟨by rfl, rfl⟩) ?_ ?_
               rotate_left
               ·simp only [Act.put, List.setIfInBounds_toArray, List.set_cons_zero, List.set_cons_succ, i64_w, i32_w]
                rfl
               refine pure_ (i := 23) (N := some 107) (v := undef) (a' := ?_) (hogsheadlaw15_ValueKeys.bm 36 16777215) rfl rfl (any_of HT_.out (by kernel_rfl)) (fun _ _ _ h => h) (Or.inr ⟨by rfl, rfl⟩) ?_ ?_
               rotate_left
               ·simp only [Act.put, List.setIfInBounds_toArray, List.set_cons_zero, List.set_cons_succ, i64_w, i32_w]
                rfl
               refine pure_ (i := 24) (N := some 108) (v := undef) (a' := ?_) (hogsheadlaw15_ValueKeys.bm 36 33554431) rfl rfl (any_of HT_.out (by kernel_rfl)) (fun _ _ _ h => h) (Or.inr ⟨by rfl, rfl⟩) ?_ ?_
               rotate_left
               ·simp only [Act.put, List.setIfInBounds_toArray, List.set_cons_zero, List.set_cons_succ, i64_w, i32_w]
                rfl
               refine pure_ (i := 25) (N := some 109) (v := undef) (a' := ?_) (hogsheadlaw15_ValueKeys.bm 36 67108863) rfl rfl (any_of HT_.out (by kernel_rfl)) (fun _ _ _ h => h) (Or.inr ⟨by rfl, rfl⟩) ?_ ?_
               rotate_left
               ·simp only [Act.put, List.setIfInBounds_toArray, List.set_cons_zero, List.set_cons_succ, i64_w, i32_w]
                rfl
               refine pure_ (i := 26) (N := some 110) (v := undef) (a' := ?_) (hogsheadlaw15_ValueKeys.bm 36 134217727) rfl rfl (any_of HT_.out (by kernel_rfl)) (fun _ _ _ h => h) (Or.inr ⟨by rfl, rfl⟩) ?_ ?_
               rotate_left
               ·simp only [Act.put, List.setIfInBounds_toArray, List.set_cons_zero, List.set_cons_succ, i64_w, i32_w]
                rfl
               refine pure_ (i := 27) (N := some 111) (v := undef) (a' := ?_) (hogsheadlaw15_ValueKeys.bm 36 268435455) rfl rfl (any_of HT_.out (by kernel_rfl)) (fun _ _ _ h => h) (Or.inr ⟨by rfl, rfl⟩) ?_ ?_
               rotate_left
               ·simp only [Act.put, List.setIfInBounds_toArray, List.set_cons_zero, List.set_cons_succ, i64_w, i32_w]
                rfl
               refine pure_ (i := 28) (N := some 112) (v := undef) (a' := ?_) (hogsheadlaw15_ValueKeys.bm 36 536870911) rfl rfl (any_of HT_.out (by kernel_rfl)) (fun _ _ _ h => h) (Or.inr ⟨by rfl, rfl⟩) ?_ ?_
               rotate_left
               ·simp only [Act.put, List.setIfInBounds_toArray, List.set_cons_zero, List.set_cons_succ, i64_w, i32_w]
                rfl
               refine pure_ (i := 29) (N := some 113) (v := undef) (a' := ?_) (hogsheadlaw15_ValueKeys.bm 36 1073741823) rfl rfl (any_of HT_.out (by kernel_rfl)) (fun _ _ _ h => h) (Or.inr ⟨by rfl, rfl⟩) ?_ ?_
               rotate_left
               ·simp only [Act.put, List.setIfInBounds_toArray, List.set_cons_zero, List.set_cons_succ, i64_w, i32_w]
                rfl
               refine pure_ (i := 30) (N := some 114) (v := undef) (a' := ?_) (hogsheadlaw15_ValueKeys.bm 36 2147483647) rfl rfl (any_of HT_.out (by kernel_rfl)) (fun _ _ _ h => h) (Or.inr ⟨by rfl, rfl⟩) ?_ ?_
               rotate_left
               ·simp only [Act.put, List.setIfInBounds_toArray, List.set_cons_zero, List.set_cons_succ, i64_w, i32_w]
                rfl
               refine pure_ (i := 31) (N := some 115) (v := undef) (a' := ?_) (hogsheadlaw15_ValueKeys.bm 36 4294967295) rfl rfl (any_of HT_.out (by kernel_rfl)) (fun _ _ _ h => h) (Or.inr ⟨by rfl, rfl⟩) ?_ ?_
               rotate_left
               ·simp only [Act.put, List.setIfInBounds_toArray, List.set_cons_zero, List.set_cons_succ, i64_w, i32_w]
                rfl
               refine pure_ (i := 32) (N := some 116) (v := undef) (a' := ?_) (hogsheadlaw15_ValueKeys.bm 36 8589934591) rfl rfl (any_of HT_.out (by kernel_rfl)) (fun _ _ _ h => h) (Or.inr ⟨by rfl, rfl⟩) ?_ ?_
               rotate_left
               ·simp only [Act.put, List.setIfInBounds_toArray, List.set_cons_zero, List.set_cons_succ, i64_w, i32_w]
                rfl
               refine pure_ (i := 33) (N := some 117) (v := undef) (a' := ?_) (hogsheadlaw15_ValueKeys.bm 36 17179869183) rfl rfl (any_of HT_.out (by kernel_rfl)) (fun _ _ _ h => h) (Or.inr ⟨by rfl, rfl⟩) ?_ ?_
               rotate_left
               ·simp only [Act.put, List.setIfInBounds_toArray, List.set_cons_zero, List.set_cons_succ, i64_w, i32_w]
                rfl
               refine pure_ (i := 34) (N := some 118) (v := ?_) (a' := ?_) (hogsheadlaw15_ValueKeys.bm 36 34359738367) rfl rfl (any_of HT_.out (by kernel_rfl)) (fun _ _ _ h => h) (Or.inl ⟨by rfl, ?_⟩) ?_ ?_
               rotate_left
               ·intro w'
                go_simp
                with_reducible rfl
               rotate_left
               ·simp only [Act.put, List.setIfInBounds_toArray, List.set_cons_zero, List.set_cons_succ, i64_w, i32_w]
                rfl
               refine pure_ (i := 35) (N := some 119) (v := ?_) (a' := ?_) (hogsheadlaw15_ValueKeys.bm 36 68719476735) rfl rfl (any_of HT_.out (by kernel_rfl)) (fun _ _ _ h => h) (Or.inl ⟨by rfl, ?_⟩) ?_ ?_
               rotate_left
               ·intro w'
                go_simp
                with_reducible rfl
               rotate_left
               ·simp only [Act.put, List.setIfInBounds_toArray, List.set_cons_zero, List.set_cons_succ, i64_w, i32_w]
                rfl
               refine done_ (qBm HT_.out (by kernel_rfl)) ?_
               try go_wp2
               go_meet
               case rel => exact ⟨_, (false), (by first | rfl | (simp; done) | (simp [*]; done) | exact congrArg Value.bool (nil_ne _) | exact congrArg Value.bool (nil_eq _) | exact congrArg Value.bool (nil_ne' _)), H', ⟨by have := HJ2.out; have := HK2.out; have := HK3.out; first | omega | exact Nat.le_refl _⟩, ⟨by (with_reducible repeat (first | apply Kd.N_alloc | apply Kd.N_drewN | apply Kd.N_drew)); exact Kd.N_mono HO_5.out (fun _ hk => ⟨hk.2.2.1, ⟨hk.2.2.2.1, hk.2.2.2.2⟩⟩)⟩, ⟨by (with_reducible repeat (first | apply Kd.N_alloc | apply Kd.N_drewN | apply Kd.N_drew)); exact Kd.N_mono HO334.out (fun _ hk => ⟨hk.1, ⟨hk.2.2.2.1, hk.2.2.2.2⟩⟩)⟩, ⟨by (with_reducible repeat (first | apply Kd.R_alloc | apply Kd.R_drewN | apply Kd.R_drew)); exact Kd.R_mono HO337.out (fun _ hk => trivial)⟩, ⟨by (with_reducible repeat (first | refine qAg ?_ _ | refine qAh ?_ | refine blk_alloc ?_ _)); exact BK338.out⟩, ⟨by repeat (first | (with_reducible first | exact HB.out | apply qAd | apply qAc | apply qAe | refine qAf ?_ GE338.out) | exact HB.out)⟩⟩
             ·rw [if_neg c43] at H
              have c43b0 : ((t335.length : Int) == (t332.length : Int)) = false := beq_eq_false_iff_ne.mpr c43
              have c43b1 : ((t335.length : Int) != (t332.length : Int)) = true := bne_iff_ne.mpr c43
              have c43b2 : (t335.length == t332.length) = false := by first | simpa using c43 | (simp at c43 ⊢; omega)
              exact absurd (H.trans (congrArg some hr_.out)) (hogsheadlaw15_ValueKeys.j4_no _ _ _ _ _ _ _ _ _)
            ·rw [if_neg c42] at H
             have c42b0 : (t328 == 5) = false := beq_eq_false_iff_ne.mpr c42
             have c42b1 : (t328 != 5) = true := bne_iff_ne.mpr c42
             (first | rw [c42b0] | (simp only [i64_w, i32_w]; rw [c42b0]) | skip)
             exact absurd (H.trans (congrArg some hr_.out)) (hogsheadlaw15_ValueKeys.j4_no _ _ _ _ _ _ _ _ _)
           ·replace c41 := Bool.eq_false_iff.mpr c41
            subst c41
            have H1 : (hogsheadlaw15_ValueKeys.j4 k3 l0 x5_2 true t328 t329 t330 t331 t332 t335) = some r := by rw [if_neg (show ¬ (false = true) by decide)] at H; exact H
            clear H
            have H := H1
            clear H1
            exact absurd (H.trans (congrArg some hr_.out)) (hogsheadlaw15_ValueKeys.j4_no _ _ _ _ _ _ _ _ _)
          case rest =>
           clear HC33
           try clear c2
           try clear p2
           try clear c4
           try clear c21
           try clear c41
           try clear c42
           try clear c42b0
           try clear c42b1
           obtain ⟨kq, x119_32, rfl, HA, HJ32, HO_5, HO_339004, HO_339005, BK338, HB⟩ := hcut
           cases kq with
           | zero => exact absurd HA.out (by simp [hogsheadlaw15_ValueKeys.j4])
           | succ kj32 =>
            have H := HA.out
            clear HA
            simp only [hogsheadlaw15_ValueKeys.j4] at H
            by_cases c72 : x119_32 = true
            ·subst c72
             have H1 : (some false) = some r := by rw [if_pos rfl] at H; exact H
             clear H
             have H := H1
             clear H1
             exact absurd (H.trans (congrArg some hr_.out)) (by simp)
            ·replace c72 := Bool.eq_false_iff.mpr c72
             subst c72
             have H1 : (hogsheadlaw15_ValueKeys.l3 kj32 l0 x5_2 1 t328 t329 t330 t331 t332 t335) = some r := by rw [if_neg (show ¬ (false = true) by decide)] at H; exact H
             clear H
             have H := H1
             clear H1
             have H' := Aside0.mk H
             clear H
             go_wp2
             go_loopg [13] kj32 (fun kq v13 w' => ∃ (x13_5 : Int), v13 = .int .i64 x13_5 ∧ Aside0 (hogsheadlaw15_ValueKeys.l3 kq l0 x5_2 x13_5 t328 t329 t330 t331 t332 t335 = some r) ∧ Aside0 (kq ≤ kj32) ∧ Aside0 (Kd.N k25 25 w' w.heap.size (fun k_ => some k_ ≠ ((.slice Ao38 t332.length co38) : Value).ownBlock ∧ some k_ ≠ ((.slice Ao39 t335.length co39) : Value).ownBlock ∧ k_ ≠ gb338) (.slice Ao34 x5_2.length co34) x5_2) ∧ Aside0 (Kd.N k25 25 w' w.heap.size (fun k_ => some k_ ≠ ((.slice Ao34 x5_2.length co34) : Value).ownBlock ∧ some k_ ≠ ((.slice Ao39 t335.length co39) : Value).ownBlock ∧ k_ ≠ gb338) (.slice Ao38 t332.length co38) t332) ∧ Aside0 (Kd.R Kd.string 9 w' w.heap.size (fun _ => True) (.slice Ao39 t335.length co39) t335) ∧ Aside0 (w'.heap[gb338]? = some (.cells #[.int .i64 t328, .bool t329, .int .i64 t330, .string t331, (.slice Ao38 t332.length co38), (.slice Ao39 t335.length co39)] 25 (0, 0))) ∧ Aside0 (Below w.heap.size w w'))
             case atStart => exact ⟨(1), (by first | rfl | (simp; done) | (simp [*]; done) | exact congrArg Value.bool (nil_ne _) | exact congrArg Value.bool (nil_eq _) | exact congrArg Value.bool (nil_ne' _)), H', ⟨Nat.le_refl _⟩, ⟨by (with_reducible repeat (first | apply Kd.N_alloc | apply Kd.N_drewN | apply Kd.N_drew)); exact HO_5.out⟩, ⟨by (with_reducible repeat (first | apply Kd.N_alloc | apply Kd.N_drewN | apply Kd.N_drew)); exact HO_339004.out⟩, ⟨by (with_reducible repeat (first | apply Kd.R_alloc | apply Kd.R_drewN | apply Kd.R_drew)); exact HO_339005.out⟩, ⟨by (with_reducible repeat (first | refine qAg ?_ _ | refine qAh ?_ | refine blk_alloc ?_ _)); exact BK338.out⟩, ⟨by repeat (first | (with_reducible first | exact HB.out | apply qAd | apply qAc | apply qAe | refine qAf ?_ GE338.out) | exact HB.out)⟩⟩
             case round =>
              clear H'
              try clear c2
              try clear p2
              try clear c4
              try clear c7
              try clear c21
              try clear c41
              try clear c42
              try clear c42b0
              try clear c42b1
              try clear c72
              try clear p2
              obtain ⟨x13_5, rfl, HA, HK5, HO_5, HO_339004, HO_339005, BK338, HB⟩ := hrel
              cases gk with
              | zero => exact absurd HA.out (by simp [hogsheadlaw15_ValueKeys.l3])
              | succ k5 =>
               have H := HA.out
               clear HA
               simp only [hogsheadlaw15_ValueKeys.l3] at H
               by_cases c73 : x13_5 < (t335.length : Int)
               ·rw [if_pos c73] at H
                have c73b0 : decide (x13_5 < (t335.length : Int)) = true := decide_eq_true c73
                clear c73
                obtain ⟨ji74, hji74⟩ : ∃ j_ : Int, (wrap64 (x13_5 - 1)) = j_ := ⟨_, rfl⟩
                replace H : (if 0 ≤ (ji74) then (if (ji74) < (t335.length : Int) then (if 0 ≤ x13_5 then (if ((Op.bytesLess ((rdOf ByteArray.empty t335 (ji74)).toList) ((rdOf ByteArray.empty t335 x13_5).toList)) = true) then (hogsheadlaw15_ValueKeys.l3 k5 l0 x5_2 (wrap64 (x13_5 + 1)) t328 t329 t330 t331 t332 t335) else (some false)) else (none)) else (none)) else (none)) = some r := by first | (rw [hji74] at H; exact H) | (simp only [hji74] at H ⊢; exact H)
                have hji74w : (IntKind.i64.wrap (x13_5 - 1)) = ji74 := (i64_w _).trans hji74
                by_cases c75 : 0 ≤ (ji74)
                ·rw [if_pos c75] at H
                 have c75b0 : decide (0 ≤ (ji74)) = true := decide_eq_true c75
                 clear c75
                 by_cases c76 : (ji74) < (t335.length : Int)
                 ·rw [if_pos c76] at H
                  have c76b0 : decide ((ji74) < (t335.length : Int)) = true := decide_eq_true c76
                  clear c76
                  by_cases c77 : 0 ≤ x13_5
                  ·rw [if_pos c77] at H
                   have c77b0 : decide (0 ≤ x13_5) = true := decide_eq_true c77
                   clear c77
                   by_cases c78 : ((Op.bytesLess ((rdOf ByteArray.empty t335 (ji74)).toList) ((rdOf ByteArray.empty t335 x13_5).toList)) = true)
                   ·rw [if_pos c78] at H
                    have c78b0 : (Op.bytesLess ((rdOf ByteArray.empty t335 (ji74)).toList) ((rdOf ByteArray.empty t335 x13_5).toList)) = true := c78
                    clear c78
                    have H' := Aside0.mk H
                    clear H
                    have hcz79_0 : wr.cell? ⟨gb338, 0, none⟩ = some (.int .i64 t328) := (qAa BK338.out 0).trans rfl
                    have hcz79_1 : wr.cell? ⟨gb338, 1, none⟩ = some (.bool t329) := (qAa BK338.out 1).trans rfl
                    have hcz79_2 : wr.cell? ⟨gb338, 2, none⟩ = some (.int .i64 t330) := (qAa BK338.out 2).trans rfl
                    have hcz79_3 : wr.cell? ⟨gb338, 3, none⟩ = some (.string t331) := (qAa BK338.out 3).trans rfl
                    have hcz79_4 : wr.cell? ⟨gb338, 4, none⟩ = some (.slice Ao38 t332.length co38) := (qAa BK338.out 4).trans rfl
                    have hcz79_5 : wr.cell? ⟨gb338, 5, none⟩ = some (.slice Ao39 t335.length co39) := (qAa BK338.out 5).trans rfl
                    have hfz79_0 := qAb BK338.out 0
                    have hfz79_1 := qAb BK338.out 1
                    have hfz79_2 := qAb BK338.out 2
                    have hfz79_3 := qAb BK338.out 3
                    have hfz79_4 := qAb BK338.out 4
                    have hfz79_5 := qAb BK338.out 5
                    try go_wp2
                    have n0_ := Aside0.mk (Kd.N_drew HO_5.out)
                    have n1_ := Aside0.mk (Kd.N_drew HO_339004.out)
                    have n2_ := Aside0.mk (Kd.R_drew HO_339005.out)
                    have n3_ := Aside0.mk (qAh BK338.out)
                    have n4_ := Aside0.mk (qAe HB.out)
                    clear HO_5
                    clear HO_339004
                    clear HO_339005
                    clear BK338
                    clear HB
                    have HO_5 := n0_
                    have HO_339004 := n1_
                    have HO_339005 := n2_
                    have BK338 := n3_
                    have HB := n4_
                    clear n0_ n1_ n2_ n3_ n4_
                    have p351 : 0 ≤ ((ji74) : Int) := of_decide_eq_true (by first | (with_reducible assumption) | assumption)
                    have q351 : (ji74) < (t335.length : Int) := of_decide_eq_true (by first | (with_reducible assumption) | assumption)
                    obtain ⟨ad351, e351, hx351_0⟩ := Kd.at_string (Kd.R_reads' HO_339005.out).2.2 (ji74) p351 q351
                    cases e351
                    replace p351 := eq_true p351
                    replace q351 := eq_true q351
                    have p352 : 0 ≤ (x13_5 : Int) := of_decide_eq_true (by first | (with_reducible assumption) | assumption)
                    have q352 : x13_5 < (t335.length : Int) := of_decide_eq_true (by first | (with_reducible assumption) | assumption)
                    obtain ⟨ad352, e352, hx352_0⟩ := Kd.at_string (Kd.R_reads' HO_339005.out).2.2 x13_5 p352 q352
                    obtain rfl : ad351 = ad352 := (by injection e352)
                    replace p352 := eq_true p352
                    replace q352 := eq_true q352
                    refine start_ (n := 12) (S := fun w' => w'.cell? ⟨gb338, 0, none⟩ = some (.int .i64 t328) ∧ w'.cell? ⟨gb338, 1, none⟩ = some (.bool t329) ∧ w'.cell? ⟨gb338, 2, none⟩ = some (.int .i64 t330) ∧ w'.cell? ⟨gb338, 3, none⟩ = some (.string t331) ∧ w'.cell? ⟨gb338, 4, none⟩ = some (.slice Ao38 t332.length co38) ∧ w'.cell? ⟨gb338, 5, none⟩ = some (.slice (some ad351) t335.length co39) ∧ w'.cell? (ad351.add ((ji74)).toNat) = some (.string (rdOf ByteArray.empty t335 (ji74))) ∧ w'.cell? (ad351.add (x13_5).toNat) = some (.string (rdOf ByteArray.empty t335 x13_5))) (ds := []) #[false, false, false, false, false, false, false, false, false, false, false, false] (by kernel_rfl) rfl rfl ⟨(qAa BK338.out 0).trans rfl, (qAa BK338.out 1).trans rfl, (qAa BK338.out 2).trans rfl, (qAa BK338.out 3).trans rfl, (qAa BK338.out 4).trans rfl, (qAa BK338.out 5).trans rfl, hx351_0, hx352_0⟩ (fun hHeld => ?_); refine qA8 hogsheadlaw15_ValueKeys.tab25 hogsheadlaw15_ValueKeys.bits25 (fun HT_ HW_ => ?_)
                    generalize wr.drew = w80 at HO_5 HO_339004 HO_339005 BK338 HB hx351_0 hx352_0 hHeld ⊢
                    refine pure_ (i := 0) (N := some 127) (v := ?_) (a' := ?_) (hogsheadlaw15_ValueKeys.bm 12 1) rfl rfl (any_of HT_.out (by kernel_rfl)) (fun _ _ _ h => h) (Or.inl ⟨by rfl, ?_⟩) ?_ ?_
                    rotate_left
                    ·intro w'
                     go_simp
                     with_reducible rfl
                    rotate_left
                    ·simp only [Act.put, List.setIfInBounds_toArray, List.set_cons_zero, List.set_cons_succ, i64_w, i32_w]
                     rfl
                    refine pure_ (i := 2) (N := some 129) (v := ?_) (a' := ?_) (hogsheadlaw15_ValueKeys.bm 12 5) rfl rfl (any_of HT_.out (by kernel_rfl)) (fun _ _ _ h => h) (Or.inl ⟨by rfl, ?_⟩) ?_ ?_
                    rotate_left
                    ·intro w'
                     go_simp
                     with_reducible rfl
                    rotate_left
                    ·simp only [Act.put, List.setIfInBounds_toArray, List.set_cons_zero, List.set_cons_succ, i64_w, i32_w]
                     rfl
                    refine pure_ (i := 3) (N := some 130) (v := ?_) (a' := ?_) (hogsheadlaw15_ValueKeys.bm 12 13) rfl rfl (any_of HT_.out (by kernel_rfl)) (fun _ _ _ h => h) (Or.inl ⟨by rfl, ?_⟩) ?_ ?_
                    rotate_left
                    ·intro w'
                     go_simp
                     with_reducible rfl
                    rotate_left
                    ·simp only [Act.put, List.setIfInBounds_toArray, List.set_cons_zero, List.set_cons_succ, i64_w, i32_w]
                     rfl
                    refine pure_ (i := 6) (N := some 133) (v := ?_) (a' := ?_) (hogsheadlaw15_ValueKeys.bm 12 77) rfl rfl (any_of HT_.out (by kernel_rfl)) (fun _ _ _ h => h) (Or.inl ⟨by rfl, ?_⟩) ?_ ?_
                    rotate_left
                    ·intro w'
                     go_simp
                     with_reducible rfl
                    rotate_left
                    ·simp only [Act.put, List.setIfInBounds_toArray, List.set_cons_zero, List.set_cons_succ, i64_w, i32_w]
                     rfl
                    refine pure_ (i := 8) (N := some 135) (v := ?_) (a' := ?_) (hogsheadlaw15_ValueKeys.bm 12 333) rfl rfl (any_of HT_.out (by kernel_rfl)) (fun _ _ _ h => h) (Or.inl ⟨by rfl, ?_⟩) ?_ ?_
                    rotate_left
                    ·intro w'
                     go_simp
                     with_reducible rfl
                    rotate_left
                    ·simp only [Act.put, List.setIfInBounds_toArray, List.set_cons_zero, List.set_cons_succ, i64_w, i32_w]
                     rfl
                    refine take_ (i := 1) (N := some 128) (v := ?_) (a' := ?_) (hogsheadlaw15_ValueKeys.bm 12 335) rfl rfl (qAt HT_.out HW_.out (by kernel_rfl)) (fun _ _ _ h => h) (Or.inl ⟨by rfl, ?_⟩) hHeld ?_ ?_
                    rotate_left
                    ·rintro w' ⟨s0, s1, s2, s3, s4, s5, s6, s7⟩
                     go_simp
                     with_reducible rfl
                    rotate_left
                    ·simp only [Act.put, List.setIfInBounds_toArray, List.set_cons_zero, List.set_cons_succ, i64_w, i32_w]
                     rfl
                    refine pure_ (i := 4) (N := some 131) (v := ?_) (a' := ?_) (hogsheadlaw15_ValueKeys.bm 12 351) rfl rfl (any_of HT_.out (by kernel_rfl)) (fun _ _ _ h => h) (Or.inl ⟨by rfl, ?_⟩) ?_ ?_
                    rotate_left
                    ·intro w'
                     go_simp
                     with_reducible rfl
                    rotate_left
                    ·simp only [Act.put, List.setIfInBounds_toArray, List.set_cons_zero, List.set_cons_succ, i64_w, i32_w]
                     rfl
                    refine take_ (i := 5) (N := some 132) (v := ?_) (a' := ?_) (hogsheadlaw15_ValueKeys.bm 12 383) rfl rfl (qAt HT_.out HW_.out (by kernel_rfl)) (fun _ _ _ h => h) (Or.inl ⟨by rfl, ?_⟩) hHeld ?_ ?_
                    rotate_left
                    ·rintro w' ⟨s0, s1, s2, s3, s4, s5, s6, s7⟩
                     go_simp
                     with_reducible rfl
                    rotate_left
                    ·simp only [Act.put, List.setIfInBounds_toArray, List.set_cons_zero, List.set_cons_succ, i64_w, i32_w]
                     rfl
                    refine take_ (i := 7) (N := some 134) (v := ?_) (a' := ?_) (hogsheadlaw15_ValueKeys.bm 12 511) rfl rfl (qAt HT_.out HW_.out (by kernel_rfl)) (fun _ _ _ h => h) (Or.inl ⟨by rfl, ?_⟩) hHeld ?_ ?_
                    rotate_left
                    ·rintro w' ⟨s0, s1, s2, s3, s4, s5, s6, s7⟩
                     go_simp
                     with_reducible rfl
                    rotate_left
                    ·simp only [Act.put, List.setIfInBounds_toArray, List.set_cons_zero, List.set_cons_succ, i64_w, i32_w]
                     rfl
                    refine pure_ (i := 9) (N := some 136) (v := ?_) (a' := ?_) (hogsheadlaw15_ValueKeys.bm 12 1023) rfl rfl (any_of HT_.out (by kernel_rfl)) (fun _ _ _ h => h) (Or.inl ⟨by rfl, ?_⟩) ?_ ?_
                    rotate_left
                    ·intro w'
                     go_simp
                     with_reducible rfl
                    rotate_left
                    ·simp only [Act.put, List.setIfInBounds_toArray, List.set_cons_zero, List.set_cons_succ, i64_w, i32_w]
                     rfl
                    refine take_ (i := 10) (N := some 137) (v := ?_) (a' := ?_) (hogsheadlaw15_ValueKeys.bm 12 2047) rfl rfl (qAt HT_.out HW_.out (by kernel_rfl)) (fun _ _ _ h => h) (Or.inl ⟨by rfl, ?_⟩) hHeld ?_ ?_
                    rotate_left
                    ·rintro w' ⟨s0, s1, s2, s3, s4, s5, s6, s7⟩
                     go_simp
                     with_reducible rfl
                    rotate_left
                    ·simp only [Act.put, List.setIfInBounds_toArray, List.set_cons_zero, List.set_cons_succ, i64_w, i32_w]
                     rfl
                    refine pure_ (i := 11) (N := some 138) (v := ?_) (a' := ?_) (hogsheadlaw15_ValueKeys.bm 12 4095) rfl rfl (any_of HT_.out (by kernel_rfl)) (fun _ _ _ h => h) (Or.inl ⟨by rfl, ?_⟩) ?_ ?_
                    rotate_left
                    ·intro w'
                     go_simp
                     with_reducible rfl
                    rotate_left
                    ·simp only [Act.put, List.setIfInBounds_toArray, List.set_cons_zero, List.set_cons_succ, i64_w, i32_w]
                     rfl
                    refine done_ (qBm HT_.out (by kernel_rfl)) ?_
                    try go_wp2
                    go_roundg k5
                    case measure => have := HJ2.out; have := HK2.out; have := HK3.out; have := HJ32.out; have := HK5.out; omega
                    case rel => exact ⟨(wrap64 (x13_5 + 1)), (by first | rfl | (simp; done) | (simp [*]; done) | exact congrArg Value.bool (nil_ne _) | exact congrArg Value.bool (nil_eq _) | exact congrArg Value.bool (nil_ne' _)), H', ⟨by have := HJ2.out; have := HK2.out; have := HK3.out; have := HJ32.out; have := HK5.out; omega⟩, ⟨by (with_reducible repeat (first | apply Kd.N_alloc | apply Kd.N_drewN | apply Kd.N_drew)); exact HO_5.out⟩, ⟨by (with_reducible repeat (first | apply Kd.N_alloc | apply Kd.N_drewN | apply Kd.N_drew)); exact HO_339004.out⟩, ⟨by (with_reducible repeat (first | apply Kd.R_alloc | apply Kd.R_drewN | apply Kd.R_drew)); exact HO_339005.out⟩, ⟨by (with_reducible repeat (first | refine qAg ?_ _ | refine qAh ?_ | refine blk_alloc ?_ _)); exact BK338.out⟩, ⟨by repeat (first | (with_reducible first | exact HB.out | apply qAd | apply qAc | apply qAe | refine qAf ?_ GE338.out) | exact HB.out)⟩⟩
                   ·rw [if_neg c78] at H
                    have c78b0 : (Op.bytesLess ((rdOf ByteArray.empty t335 (ji74)).toList) ((rdOf ByteArray.empty t335 x13_5).toList)) = false := by simpa using c78
                    clear c78
                    exact absurd (H.trans (congrArg some hr_.out)) (by simp)
                  ·rw [if_neg c77] at H
                   exact absurd H (by simp)
                 ·rw [if_neg c76] at H
                  exact absurd H (by simp)
                ·rw [if_neg c75] at H
                 exact absurd H (by simp)
               ·rw [if_neg c73] at H
                have c73b0 : decide (x13_5 < (t335.length : Int)) = false := decide_eq_false c73
                clear c73
                have H' := Aside0.mk H
                clear H
                have hcz81_0 : wr.cell? ⟨gb338, 0, none⟩ = some (.int .i64 t328) := (qAa BK338.out 0).trans rfl
                have hcz81_1 : wr.cell? ⟨gb338, 1, none⟩ = some (.bool t329) := (qAa BK338.out 1).trans rfl
                have hcz81_2 : wr.cell? ⟨gb338, 2, none⟩ = some (.int .i64 t330) := (qAa BK338.out 2).trans rfl
                have hcz81_3 : wr.cell? ⟨gb338, 3, none⟩ = some (.string t331) := (qAa BK338.out 3).trans rfl
                have hcz81_4 : wr.cell? ⟨gb338, 4, none⟩ = some (.slice Ao38 t332.length co38) := (qAa BK338.out 4).trans rfl
                have hcz81_5 : wr.cell? ⟨gb338, 5, none⟩ = some (.slice Ao39 t335.length co39) := (qAa BK338.out 5).trans rfl
                have hfz81_0 := qAb BK338.out 0
                have hfz81_1 := qAb BK338.out 1
                have hfz81_2 := qAb BK338.out 2
                have hfz81_3 := qAb BK338.out 3
                have hfz81_4 := qAb BK338.out 4
                have hfz81_5 := qAb BK338.out 5
                go_wp2
                go_loopg [14] k5 (fun kq v14 w' => ∃ (x14_6 : Int), v14 = .int .i64 x14_6 ∧ Aside0 (hogsheadlaw15_ValueKeys.l4 kq l0 x5_2 x14_6 t328 t329 t330 t331 t332 t335 = some r) ∧ Aside0 (kq ≤ k5) ∧ Aside0 (Kd.N k25 25 w' w.heap.size (fun k_ => some k_ ≠ ((.slice Ao38 t332.length co38) : Value).ownBlock ∧ some k_ ≠ ((.slice Ao39 t335.length co39) : Value).ownBlock ∧ k_ ≠ gb338) (.slice Ao34 x5_2.length co34) x5_2) ∧ Aside0 (Kd.N k25 25 w' w.heap.size (fun k_ => some k_ ≠ ((.slice Ao34 x5_2.length co34) : Value).ownBlock ∧ some k_ ≠ ((.slice Ao39 t335.length co39) : Value).ownBlock ∧ k_ ≠ gb338) (.slice Ao38 t332.length co38) t332) ∧ Aside0 (Kd.R Kd.string 9 w' w.heap.size (fun _ => True) (.slice Ao39 t335.length co39) t335) ∧ Aside0 (w'.heap[gb338]? = some (.cells #[.int .i64 t328, .bool t329, .int .i64 t330, .string t331, (.slice Ao38 t332.length co38), (.slice Ao39 t335.length co39)] 25 (0, 0))) ∧ Aside0 (Below w.heap.size w w'))
                case atStart => exact ⟨(0), (by first | rfl | (simp; done) | (simp [*]; done) | exact congrArg Value.bool (nil_ne _) | exact congrArg Value.bool (nil_eq _) | exact congrArg Value.bool (nil_ne' _)), H', ⟨Nat.le_refl _⟩, ⟨by (with_reducible repeat (first | apply Kd.N_alloc | apply Kd.N_drewN | apply Kd.N_drew)); exact HO_5.out⟩, ⟨by (with_reducible repeat (first | apply Kd.N_alloc | apply Kd.N_drewN | apply Kd.N_drew)); exact HO_339004.out⟩, ⟨by (with_reducible repeat (first | apply Kd.R_alloc | apply Kd.R_drewN | apply Kd.R_drew)); exact HO_339005.out⟩, ⟨by (with_reducible repeat (first | refine qAg ?_ _ | refine qAh ?_ | refine blk_alloc ?_ _)); exact BK338.out⟩, ⟨by repeat (first | (with_reducible first | exact HB.out | apply qAd | apply qAc | apply qAe | refine qAf ?_ GE338.out) | exact HB.out)⟩⟩
                case round =>
                 clear H'
                 try clear c2
                 try clear p2
                 try clear p3
                 try clear q3
                 try clear hx3
                 try clear c4
                 try clear p6
                 try clear c7
                 try clear c21
                 try clear p35
                 try clear q35
                 try clear hx35
                 try clear c41
                 try clear c42
                 try clear c42b0
                 try clear c42b1
                 try clear p64
                 try clear c72
                 try clear c73
                 try clear c73b0
                 try clear c75
                 try clear c75b0
                 try clear c76
                 try clear c76b0
                 try clear c77
                 try clear c77b0
                 try clear c78
                 try clear c78b0
                 try clear hcz79_0
                 try clear hcz79_1
                 try clear hcz79_2
                 try clear hcz79_3
                 try clear hcz79_4
                 try clear hcz79_5
                 try clear hcz81_0
                 try clear hcz81_1
                 try clear hcz81_2
                 try clear hcz81_3
                 try clear hcz81_4
                 try clear hcz81_5
                 try clear hfz79_0
                 try clear hfz79_1
                 try clear hfz79_2
                 try clear hfz79_3
                 try clear hfz79_4
                 try clear hfz79_5
                 try clear hfz81_0
                 try clear hfz81_1
                 try clear hfz81_2
                 try clear hfz81_3
                 try clear hfz81_4
                 try clear hfz81_5
                 try clear hx351_0
                 try clear hx352_0
                 try clear p2
                 try clear p351
                 try clear p352
                 try clear q351
                 try clear q352
                 obtain ⟨x14_6, rfl, HA, HK6, HO_5, HO_339004, HO_339005, BK338, HB⟩ := hrel
                 cases gk with
                 | zero => exact absurd HA.out (by simp [hogsheadlaw15_ValueKeys.l4])
                 | succ k6 =>
                  have H := HA.out
                  clear HA
                  simp only [hogsheadlaw15_ValueKeys.l4] at H
                  by_cases c82 : x14_6 < (l0.length : Int)
                  ·rw [if_pos c82] at H
                   have c82b0 : decide (x14_6 < (l0.length : Int)) = true := decide_eq_true c82
                   clear c82
                   have H' := Aside0.mk H
                   clear H
                   go_wp2
                   go_loopg [15] k6 (fun kq v15 w' => ∃ (x15_7 : Int), v15 = .int .i64 x15_7 ∧ Aside0 (hogsheadlaw15_ValueKeys.l5 kq l0 x5_2 x14_6 x15_7 t328 t329 t330 t331 t332 t335 = some r) ∧ Aside0 (kq ≤ k6) ∧ Aside0 (Kd.N k25 25 w' w.heap.size (fun k_ => some k_ ≠ ((.slice Ao38 t332.length co38) : Value).ownBlock ∧ some k_ ≠ ((.slice Ao39 t335.length co39) : Value).ownBlock ∧ k_ ≠ gb338) (.slice Ao34 x5_2.length co34) x5_2) ∧ Aside0 (Kd.N k25 25 w' w.heap.size (fun k_ => some k_ ≠ ((.slice Ao34 x5_2.length co34) : Value).ownBlock ∧ some k_ ≠ ((.slice Ao39 t335.length co39) : Value).ownBlock ∧ k_ ≠ gb338) (.slice Ao38 t332.length co38) t332) ∧ Aside0 (Kd.R Kd.string 9 w' w.heap.size (fun _ => True) (.slice Ao39 t335.length co39) t335) ∧ Aside0 (w'.heap[gb338]? = some (.cells #[.int .i64 t328, .bool t329, .int .i64 t330, .string t331, (.slice Ao38 t332.length co38), (.slice Ao39 t335.length co39)] 25 (0, 0))) ∧ Aside0 (Below w.heap.size w w'))
                   case atStart => exact ⟨(0), (by first | rfl | (simp; done) | (simp [*]; done) | exact congrArg Value.bool (nil_ne _) | exact congrArg Value.bool (nil_eq _) | exact congrArg Value.bool (nil_ne' _)), H', ⟨Nat.le_refl _⟩, ⟨by (with_reducible repeat (first | apply Kd.N_alloc | apply Kd.N_drewN | apply Kd.N_drew)); exact HO_5.out⟩, ⟨by (with_reducible repeat (first | apply Kd.N_alloc | apply Kd.N_drewN | apply Kd.N_drew)); exact HO_339004.out⟩, ⟨by (with_reducible repeat (first | apply Kd.R_alloc | apply Kd.R_drewN | apply Kd.R_drew)); exact HO_339005.out⟩, ⟨by (with_reducible repeat (first | refine qAg ?_ _ | refine qAh ?_ | refine blk_alloc ?_ _)); exact BK338.out⟩, ⟨by repeat (first | (with_reducible first | exact HB.out | apply qAd | apply qAc | apply qAe | refine qAf ?_ GE338.out) | exact HB.out)⟩⟩
                   case round =>
                    clear H'
                    try clear c2
                    try clear p2
                    try clear p3
                    try clear q3
                    try clear hx3
                    try clear c4
                    try clear p6
                    try clear c7
                    try clear c8
                    try clear c21
                    try clear p35
                    try clear q35
                    try clear hx35
                    try clear c41
                    try clear c42
                    try clear c42b0
                    try clear c42b1
                    try clear p64
                    try clear c72
                    try clear c73
                    try clear c73b0
                    try clear c75
                    try clear c75b0
                    try clear c76
                    try clear c76b0
                    try clear c77
                    try clear c77b0
                    try clear c78
                    try clear c78b0
                    try clear c82
                    try clear c82b0
                    try clear hcz79_0
                    try clear hcz79_1
                    try clear hcz79_2
                    try clear hcz79_3
                    try clear hcz79_4
                    try clear hcz79_5
                    try clear hcz81_0
                    try clear hcz81_1
                    try clear hcz81_2
                    try clear hcz81_3
                    try clear hcz81_4
                    try clear hcz81_5
                    try clear hfz79_0
                    try clear hfz79_1
                    try clear hfz79_2
                    try clear hfz79_3
                    try clear hfz79_4
                    try clear hfz79_5
                    try clear hfz81_0
                    try clear hfz81_1
                    try clear hfz81_2
                    try clear hfz81_3
                    try clear hfz81_4
                    try clear hfz81_5
                    try clear hx351_0
                    try clear hx352_0
                    try clear p2
                    try clear p3
                    try clear p35
                    try clear p351
                    try clear p352
                    try clear p6
                    try clear p64
                    try clear q3
                    try clear q35
                    try clear q351
                    try clear q352
                    obtain ⟨x15_7, rfl, HA, HK7, HO_5, HO_339004, HO_339005, BK338, HB⟩ := hrel
                    cases gk with
                    | zero => exact absurd HA.out (by simp [hogsheadlaw15_ValueKeys.l5])
                    | succ k7 =>
                     have H := HA.out
                     clear HA
                     simp only [hogsheadlaw15_ValueKeys.l5] at H
                     by_cases c83 : 0 ≤ x15_7
                     ·rw [if_pos c83] at H
                      have c83b0 : decide (0 ≤ x15_7) = true := decide_eq_true c83
                      clear c83
                      by_cases c84 : x15_7 < (l0.length : Int)
                      ·rw [if_pos c84] at H
                       have c84b0 : decide (x15_7 < (l0.length : Int)) = true := decide_eq_true c84
                       clear c84
                       by_cases c85 : 0 ≤ x14_6
                       ·rw [if_pos c85] at H
                        have c85b0 : decide (0 ≤ x14_6) = true := decide_eq_true c85
                        clear c85
                        by_cases c86 : x14_6 < (l0.length : Int)
                        ·rw [if_pos c86] at H
                         have c86b0 : decide (x14_6 < (l0.length : Int)) = true := decide_eq_true c86
                         clear c86
                         by_cases c87 : (rdOf ByteArray.empty l0 x15_7).toList = (rdOf ByteArray.empty l0 x14_6).toList
                         ·rw [if_pos c87] at H
                          have c87b0 : ((rdOf ByteArray.empty l0 x15_7).toList == (rdOf ByteArray.empty l0 x14_6).toList) = true := beq_iff_eq.mpr c87
                          have c87b1 : ((rdOf ByteArray.empty l0 x15_7).toList != (rdOf ByteArray.empty l0 x14_6).toList) = false := bne_eq_false_iff_eq.mpr c87
                          clear c87
                          replace H := Option.bind_eq_some_iff.mp H
                          obtain ⟨⟨t357, t358, t359, t360, t361, t364, t367⟩, A880, H⟩ := H
                          replace H : (if t367 = true then (if x15_7 < (x5_2.length : Int) then ((hogsheadlaw0_SameValue.f k7 t357 t358 t359 t360 t361 t364 ((rd_T25 x5_2 x15_7).f0) ((rd_T25 x5_2 x15_7).f1) ((rd_T25 x5_2 x15_7).f2) ((rd_T25 x5_2 x15_7).f3) ((rd_T25 x5_2 x15_7).f4) ((rd_T25 x5_2 x15_7).f5) 2).bind fun t370 => (if t370 = true then (hogsheadlaw15_ValueKeys.l4 k7 l0 x5_2 (wrap64 (x14_6 + 1)) t328 t329 t330 t331 t332 t335) else (some false))) else (none)) else (some false)) = some r := H
                          have A88 := Aside0.mk A880
                          clear A880
                          by_cases c89 : t367 = true
                          ·subst c89
                           have H1 : (if x15_7 < (x5_2.length : Int) then ((hogsheadlaw0_SameValue.f k7 t357 t358 t359 t360 t361 t364 ((rd_T25 x5_2 x15_7).f0) ((rd_T25 x5_2 x15_7).f1) ((rd_T25 x5_2 x15_7).f2) ((rd_T25 x5_2 x15_7).f3) ((rd_T25 x5_2 x15_7).f4) ((rd_T25 x5_2 x15_7).f5) 2).bind fun t370 => (if t370 = true then (hogsheadlaw15_ValueKeys.l4 k7 l0 x5_2 (wrap64 (x14_6 + 1)) t328 t329 t330 t331 t332 t335) else (some false))) else (none)) = some r := by rw [if_pos rfl] at H; exact H
                           clear H
                           have H := H1
                           clear H1
                           by_cases c90 : x15_7 < (x5_2.length : Int)
                           ·rw [if_pos c90] at H
                            have c90b0 : decide (x15_7 < (x5_2.length : Int)) = true := decide_eq_true c90
                            clear c90
                            replace H := Option.bind_eq_some_iff.mp H
                            obtain ⟨t370, A910, H⟩ := H
                            replace H : (if t370 = true then (hogsheadlaw15_ValueKeys.l4 k7 l0 x5_2 (wrap64 (x14_6 + 1)) t328 t329 t330 t331 t332 t335) else (some false)) = some r := H
                            have A91 := Aside0.mk A910
                            clear A910
                            by_cases c92 : t370 = true
                            ·subst c92
                             have H1 : (hogsheadlaw15_ValueKeys.l4 k7 l0 x5_2 (wrap64 (x14_6 + 1)) t328 t329 t330 t331 t332 t335) = some r := by rw [if_pos rfl] at H; exact H
                             clear H
                             have H := H1
                             clear H1
                             have H' := Aside0.mk H
                             clear H
                             try go_wp2
                             have n0_ := Aside0.mk (Kd.N_drew HO_5.out)
                             have n1_ := Aside0.mk (Kd.N_drew HO_339004.out)
                             have n2_ := Aside0.mk (Kd.R_drew HO_339005.out)
                             have n3_ := Aside0.mk (qAh BK338.out)
                             have n4_ := Aside0.mk (qAe HB.out)
                             clear HO_5
                             clear HO_339004
                             clear HO_339005
                             clear BK338
                             clear HB
                             have HO_5 := n0_
                             have HO_339004 := n1_
                             have HO_339005 := n2_
                             have BK338 := n3_
                             have HB := n4_
                             clear n0_ n1_ n2_ n3_ n4_
                             have p354 : 0 ≤ (x15_7 : Int) := of_decide_eq_true (by first | (with_reducible assumption) | assumption)
                             have q354 : x15_7 < (l0.length : Int) := of_decide_eq_true (by first | (with_reducible assumption) | assumption)
                             obtain ⟨ad354, e354, hx354_0⟩ := Kd.at_string HR0.out x15_7 p354 q354
                             have hw354_0 := hx354_0
                             cases e354
                             replace hx354_0 := (HB.out.cell (World.block_lt_of_cell? w _ hx354_0)).trans hx354_0
                             replace p354 := eq_true p354
                             replace q354 := eq_true q354
                             have p355 : 0 ≤ (x14_6 : Int) := of_decide_eq_true (by first | (with_reducible assumption) | assumption)
                             have q355 : x14_6 < (l0.length : Int) := of_decide_eq_true (by first | (with_reducible assumption) | assumption)
                             obtain ⟨ad355, e355, hx355_0⟩ := Kd.at_string HR0.out x14_6 p355 q355
                             have hw355_0 := hx355_0
                             obtain rfl : ad354 = ad355 := (by injection e355)
                             replace hx355_0 := (HB.out.cell (World.block_lt_of_cell? w _ hx355_0)).trans hx355_0
                             replace p355 := eq_true p355
                             replace q355 := eq_true q355
                             refine start_ (n := 9) (S := fun w' => w'.cell? (ad354.add (x15_7).toNat) = some (.string (rdOf ByteArray.empty l0 x15_7)) ∧ w'.cell? (ad354.add (x14_6).toNat) = some (.string (rdOf ByteArray.empty l0 x14_6))) (ds := []) #[false, false, false, false, false, false, false, false, false] (by kernel_rfl) rfl rfl ⟨((HB.out.cell (World.block_lt_of_cell? w _ hw354_0)).trans hw354_0), ((HB.out.cell (World.block_lt_of_cell? w _ hw355_0)).trans hw355_0)⟩ (fun hHeld => ?_); refine qA8 hogsheadlaw15_ValueKeys.tab31 hogsheadlaw15_ValueKeys.bits31 (fun HT_ HW_ => ?_)
                             generalize wr.drew = w93 at HO_5 HO_339004 HO_339005 BK338 HB hx354_0 hx355_0 hHeld ⊢
                             refine pure_ (i := 0) (N := some 145) (v := ?_) (a' := ?_) (hogsheadlaw15_ValueKeys.bm 9 1) rfl rfl (any_of HT_.out (by kernel_rfl)) (fun _ _ _ h => h) (Or.inl ⟨by rfl, ?_⟩) ?_ ?_
                             rotate_left
                             ·intro w'
                              go_simp
                              with_reducible rfl
                             rotate_left
                             ·simp only [Act.put, List.setIfInBounds_toArray, List.set_cons_zero, List.set_cons_succ, i64_w, i32_w]
                              rfl
                             refine pure_ (i := 1) (N := some 146) (v := ?_) (a' := ?_) (hogsheadlaw15_ValueKeys.bm 9 3) rfl rfl (any_of HT_.out (by kernel_rfl)) (fun _ _ _ h => h) (Or.inl ⟨by rfl, ?_⟩) ?_ ?_
                             rotate_left
                             ·intro w'
                              go_simp
                              with_reducible rfl
                             rotate_left
                             ·simp only [Act.put, List.setIfInBounds_toArray, List.set_cons_zero, List.set_cons_succ, i64_w, i32_w]
                              rfl
                             refine pure_ (i := 2) (N := some 147) (v := ?_) (a' := ?_) (hogsheadlaw15_ValueKeys.bm 9 7) rfl rfl (any_of HT_.out (by kernel_rfl)) (fun _ _ _ h => h) (Or.inl ⟨by rfl, ?_⟩) ?_ ?_
                             rotate_left
                             ·intro w'
                              go_simp
                              with_reducible rfl
                             rotate_left
                             ·simp only [Act.put, List.setIfInBounds_toArray, List.set_cons_zero, List.set_cons_succ, i64_w, i32_w]
                              rfl
                             refine pure_ (i := 4) (N := some 149) (v := ?_) (a' := ?_) (hogsheadlaw15_ValueKeys.bm 9 23) rfl rfl (any_of HT_.out (by kernel_rfl)) (fun _ _ _ h => h) (Or.inl ⟨by rfl, ?_⟩) ?_ ?_
                             rotate_left
                             ·intro w'
                              go_simp
                              with_reducible rfl
                             rotate_left
                             ·simp only [Act.put, List.setIfInBounds_toArray, List.set_cons_zero, List.set_cons_succ, i64_w, i32_w]
                              rfl
                             refine pure_ (i := 5) (N := some 150) (v := ?_) (a' := ?_) (hogsheadlaw15_ValueKeys.bm 9 55) rfl rfl (any_of HT_.out (by kernel_rfl)) (fun _ _ _ h => h) (Or.inl ⟨by rfl, ?_⟩) ?_ ?_
                             rotate_left
                             ·intro w'
                              go_simp
                              with_reducible rfl
                             rotate_left
                             ·simp only [Act.put, List.setIfInBounds_toArray, List.set_cons_zero, List.set_cons_succ, i64_w, i32_w]
                              rfl
                             refine pure_ (i := 6) (N := some 151) (v := ?_) (a' := ?_) (hogsheadlaw15_ValueKeys.bm 9 119) rfl rfl (any_of HT_.out (by kernel_rfl)) (fun _ _ _ h => h) (Or.inl ⟨by rfl, ?_⟩) ?_ ?_
                             rotate_left
                             ·intro w'
                              go_simp
                              with_reducible rfl
                             rotate_left
                             ·simp only [Act.put, List.setIfInBounds_toArray, List.set_cons_zero, List.set_cons_succ, i64_w, i32_w]
                              rfl
                             refine take_ (i := 3) (N := some 148) (v := ?_) (a' := ?_) (hogsheadlaw15_ValueKeys.bm 9 127) rfl rfl (qAt HT_.out HW_.out (by kernel_rfl)) (fun _ _ _ h => h) (Or.inl ⟨by rfl, ?_⟩) hHeld ?_ ?_
                             rotate_left
                             ·rintro w' ⟨s0, s1⟩
                              go_simp
                              with_reducible rfl
                             rotate_left
                             ·simp only [Act.put, List.setIfInBounds_toArray, List.set_cons_zero, List.set_cons_succ, i64_w, i32_w]
                              rfl
                             refine take_ (i := 7) (N := some 152) (v := ?_) (a' := ?_) (hogsheadlaw15_ValueKeys.bm 9 255) rfl rfl (qAt HT_.out HW_.out (by kernel_rfl)) (fun _ _ _ h => h) (Or.inl ⟨by rfl, ?_⟩) hHeld ?_ ?_
                             rotate_left
                             ·rintro w' ⟨s0, s1⟩
                              go_simp
                              with_reducible rfl
                             rotate_left
                             ·simp only [Act.put, List.setIfInBounds_toArray, List.set_cons_zero, List.set_cons_succ, i64_w, i32_w]
                              rfl
                             refine pure_ (i := 8) (N := some 153) (v := ?_) (a' := ?_) (hogsheadlaw15_ValueKeys.bm 9 511) rfl rfl (any_of HT_.out (by kernel_rfl)) (fun _ _ _ h => h) (Or.inl ⟨by rfl, ?_⟩) ?_ ?_
                             rotate_left
                             ·intro w'
                              go_simp
                              with_reducible rfl
                             rotate_left
                             ·simp only [Act.put, List.setIfInBounds_toArray, List.set_cons_zero, List.set_cons_succ, i64_w, i32_w]
                              rfl
                             refine done_ (qBm HT_.out (by kernel_rfl)) ?_
                             try go_wp2
                             have n0_ := Aside0.mk (Kd.N_drew HO_5.out)
                             have n1_ := Aside0.mk (Kd.N_drew HO_339004.out)
                             have n2_ := Aside0.mk (Kd.R_drew HO_339005.out)
                             have n3_ := Aside0.mk (qAh BK338.out)
                             have n4_ := Aside0.mk (qAe HB.out)
                             clear HO_5
                             clear HO_339004
                             clear HO_339005
                             clear BK338
                             clear HB
                             have HO_5 := n0_
                             have HO_339004 := n1_
                             have HO_339005 := n2_
                             have BK338 := n3_
                             have HB := n4_
                             clear n0_ n1_ n2_ n3_ n4_
                             have p356 : 0 ≤ (x14_6 : Int) := of_decide_eq_true (by first | (with_reducible assumption) | assumption)
                             have q356 : x14_6 < (l0.length : Int) := of_decide_eq_true (by first | (with_reducible assumption) | assumption)
                             obtain ⟨ad356, e356, hx356_0⟩ := Kd.at_string HR0.out x14_6 p356 q356
                             have hw356_0 := hx356_0
                             obtain rfl : ad354 = ad356 := (by injection e356)
                             replace hx356_0 := (HB.out.cell (World.block_lt_of_cell? w _ hx356_0)).trans hx356_0
                             replace p356 := eq_true p356
                             replace q356 := eq_true q356
                             refine start_ (n := 12) (S := fun w' => w'.cell? ⟨gb338, 0, none⟩ = some (.int .i64 t328) ∧ w'.cell? ⟨gb338, 1, none⟩ = some (.bool t329) ∧ w'.cell? ⟨gb338, 2, none⟩ = some (.int .i64 t330) ∧ w'.cell? ⟨gb338, 3, none⟩ = some (.string t331) ∧ w'.cell? ⟨gb338, 4, none⟩ = some (.slice Ao38 t332.length co38) ∧ w'.cell? ⟨gb338, 5, none⟩ = some (.slice Ao39 t335.length co39) ∧ w'.cell? (ad354.add (x14_6).toNat) = some (.string (rdOf ByteArray.empty l0 x14_6))) (ds := []) #[false, false, false, false, false, false, false, false, false, false, false, false] (by kernel_rfl) rfl rfl ⟨(qAa BK338.out 0).trans rfl, (qAa BK338.out 1).trans rfl, (qAa BK338.out 2).trans rfl, (qAa BK338.out 3).trans rfl, (qAa BK338.out 4).trans rfl, (qAa BK338.out 5).trans rfl, ((HB.out.cell (World.block_lt_of_cell? w _ hw356_0)).trans hw356_0)⟩ (fun hHeld => ?_); refine qA8 hogsheadlaw15_ValueKeys.tab33 hogsheadlaw15_ValueKeys.bits33 (fun HT_ HW_ => ?_)
                             generalize w93.drew = w94 at HO_5 HO_339004 HO_339005 BK338 HB hx356_0 hHeld ⊢
                             refine pure_ (i := 1) (N := some 158) (v := ?_) (a' := ?_) (hogsheadlaw15_ValueKeys.bm 12 2) rfl rfl (any_of HT_.out (by kernel_rfl)) (fun _ _ _ h => h) (Or.inl ⟨by rfl, ?_⟩) ?_ ?_
                             rotate_left
                             ·intro w'
                              go_simp
                              with_reducible rfl
                             rotate_left
                             ·simp only [Act.put, List.setIfInBounds_toArray, List.set_cons_zero, List.set_cons_succ, i64_w, i32_w]
                              rfl
                             refine pure_ (i := 2) (N := some 159) (v := ?_) (a' := ?_) (hogsheadlaw15_ValueKeys.bm 12 6) rfl rfl (any_of HT_.out (by kernel_rfl)) (fun _ _ _ h => h) (Or.inl ⟨by rfl, ?_⟩) ?_ ?_
                             rotate_left
                             ·intro w'
                              go_simp
                              with_reducible rfl
                             rotate_left
                             ·simp only [Act.put, List.setIfInBounds_toArray, List.set_cons_zero, List.set_cons_succ, i64_w, i32_w]
                              rfl
                             refine pure_ (i := 3) (N := some 160) (v := ?_) (a' := ?_) (hogsheadlaw15_ValueKeys.bm 12 14) rfl rfl (any_of HT_.out (by kernel_rfl)) (fun _ _ _ h => h) (Or.inl ⟨by rfl, ?_⟩) ?_ ?_
                             rotate_left
                             ·intro w'
                              go_simp
                              with_reducible rfl
                             rotate_left
                             ·simp only [Act.put, List.setIfInBounds_toArray, List.set_cons_zero, List.set_cons_succ, i64_w, i32_w]
                              rfl
                             refine take_ (i := 0) (N := some 157) (v := ?_) (a' := ?_) (hogsheadlaw15_ValueKeys.bm 12 15) rfl rfl (qAt HT_.out HW_.out (by kernel_rfl)) (fun _ _ _ h => h) (Or.inl ⟨by rfl, ?_⟩) hHeld ?_ ?_
                             rotate_left
                             ·rintro w' ⟨s0, s1, s2, s3, s4, s5, s6⟩
                              go_simp
                              with_reducible rfl
                             rotate_left
                             ·simp only [Act.put, List.setIfInBounds_toArray, List.set_cons_zero, List.set_cons_succ, i64_w, i32_w]
                              rfl
                             refine take_ (i := 4) (N := some 161) (v := ?_) (a' := ?_) (hogsheadlaw15_ValueKeys.bm 12 31) rfl rfl (qAt HT_.out HW_.out (by kernel_rfl)) (fun _ _ _ h => h) (Or.inl ⟨by rfl, ?_⟩) hHeld ?_ ?_
                             rotate_left
                             ·rintro w' ⟨s0, s1, s2, s3, s4, s5, s6⟩
                              go_simp
                              with_reducible rfl
                             rotate_left
                             ·simp only [Act.put, List.setIfInBounds_toArray, List.set_cons_zero, List.set_cons_succ, i64_w, i32_w]
                              rfl
                             refine join_ (σ := Value × Value × Nat) 2 (hogsheadlaw15_ValueKeys.bm 12 1023) (fun s_ => [(162, .tuple #[.agg #[.int .i64 t357, .bool t358, .int .i64 t359, .string t360, s_.1, s_.2.1], .bool true]), (16, .pointer (some ⟨s_.2.2, 0, none⟩)), (156, .tuple #[.agg #[.int .i64 t357, .bool t358, .int .i64 t359, .string t360, s_.1, s_.2.1], .bool true]), (163, .agg #[.int .i64 t357, .bool t358, .int .i64 t359, .string t360, s_.1, s_.2.1]), (164, .bool true)]) (fun s_ w' => (w'.cell? ⟨gb338, 0, none⟩ = some (.int .i64 t328) ∧ w'.cell? ⟨gb338, 1, none⟩ = some (.bool t329) ∧ w'.cell? ⟨gb338, 2, none⟩ = some (.int .i64 t330) ∧ w'.cell? ⟨gb338, 3, none⟩ = some (.string t331) ∧ w'.cell? ⟨gb338, 4, none⟩ = some (.slice Ao38 t332.length co38) ∧ w'.cell? ⟨gb338, 5, none⟩ = some (.slice Ao39 t335.length co39) ∧ w'.cell? (ad354.add (x14_6).toNat) = some (.string (rdOf ByteArray.empty l0 x14_6))) ∧ (Kd.N k25 25 w' w.heap.size (fun k_ => some k_ ≠ (s_.2.1 : Value).ownBlock ∧ some k_ ≠ (.slice Ao38 t332.length co38 : Value).ownBlock ∧ some k_ ≠ (.slice Ao39 t335.length co39 : Value).ownBlock ∧ some k_ ≠ (.slice Ao34 x5_2.length co34 : Value).ownBlock ∧ k_ ≠ gb338 ∧ k_ ≠ s_.2.2) s_.1 t361) ∧ (Kd.R Kd.string 9 w' w.heap.size (fun k_ => some k_ ≠ (.slice Ao39 t335.length co39 : Value).ownBlock) s_.2.1 t364) ∧ (Kd.N k25 25 w' w.heap.size (fun k_ => some k_ ≠ (s_.1 : Value).ownBlock ∧ some k_ ≠ (s_.2.1 : Value).ownBlock ∧ some k_ ≠ (.slice Ao39 t335.length co39 : Value).ownBlock ∧ some k_ ≠ (.slice Ao34 x5_2.length co34 : Value).ownBlock ∧ k_ ≠ gb338 ∧ k_ ≠ s_.2.2) (.slice Ao38 t332.length co38) t332) ∧ (Kd.R Kd.string 9 w' w.heap.size (fun k_ => some k_ ≠ (s_.2.1 : Value).ownBlock) (.slice Ao39 t335.length co39) t335) ∧ (Kd.N k25 25 w' w.heap.size (fun k_ => some k_ ≠ (s_.1 : Value).ownBlock ∧ some k_ ≠ (s_.2.1 : Value).ownBlock ∧ some k_ ≠ (.slice Ao38 t332.length co38 : Value).ownBlock ∧ some k_ ≠ (.slice Ao39 t335.length co39 : Value).ownBlock ∧ k_ ≠ gb338 ∧ k_ ≠ s_.2.2) (.slice Ao34 x5_2.length co34) x5_2) ∧ (w'.heap[gb338]? = some (.cells #[.int .i64 t328, .bool t329, .int .i64 t330, .string t331, .slice Ao38 t332.length co38, .slice Ao39 t335.length co39] 25 (0, 0))) ∧ (w'.heap[s_.2.2]? = some (.cells #[.int .i64 0, .bool false, .int .i64 0, .string (⟨#[]⟩ : ByteArray), .slice none 0 0, .slice none 0 0] 25 (0, 0))) ∧ (w.heap.size ≤ s_.2.2) ∧ (w.heap.size ≤ s_.2.2) ∧ (gb338 ≠ s_.2.2) ∧ (s_.2.2 ≠ gb338) ∧ (Below w.heap.size w w')) ?_ ?_
                             rotate_left
                             ·intro hCont
                              refine two_ (i := 5) (j := 9) (Ni := some 162) (Nj := some 16) (hogsheadlaw15_ValueKeys.bm 12 63) (hogsheadlaw15_ValueKeys.bm 12 543) rfl rfl rfl rfl (two_of HT_.out (by kernel_rfl)) (by decide) (by decide) (fun K hK => ?_) (fun K hK => ?_)
                              ·skip
                               refine goes_ Tryd.func18 (by kernel_rfl) rfl #[.agg #[.int .i64 t328, .bool t329, .int .i64 t330, .string t331, .slice Ao38 t332.length co38, .slice Ao39 t335.length co39], .string (rdOf ByteArray.empty l0 x14_6)] (by rfl) rfl rfl (by (try simp only [List.map_toArray, List.map_cons, List.map_nil]); first | done | rfl | (simp only [List.length_drop, List.length_take]; rfl)) ?_
                               with_reducible refine (value_Get.calls k7 t328 t329 t330 t331 _ _ t332 _ _ t335 (rdOf ByteArray.empty l0 x14_6) t357 t358 t359 t360 t361 t364 true _ ?side1 ?side2 ?side3 ?side4 A88.out).mono ?_
                               (case side1 => repeat (first | exact (Kd.N_reads' HO_339004.out).2.2 | (with_reducible refine Kd.C_alloc ?_ _) | (with_reducible refine Kd.C_drewN ?_ _) | (with_reducible refine Kd.C_drew ?_)))
                               (case side2 => exact (Kd.N_reads' HO_339004.out).2.1)
                               (case side3 => repeat (first | exact (Kd.R_reads' HO_339005.out).2.2 | (with_reducible refine Kd.C_alloc ?_ _) | (with_reducible refine Kd.C_drewN ?_ _) | (with_reducible refine Kd.C_drew ?_)))
                               (case side4 => exact (Kd.R_reads' HO_339005.out).2.1)
                               rintro e w95 ⟨v362, v365, rfl, ho0, ho1, hb⟩
                               refine ⟨_, rfl, ?_⟩
                               have n0_ := Aside0.mk (Kd.N_mono (Kd.N_told (Kd.N_told (Kd.N_old (by (with_reducible repeat (first | apply Kd.N_alloc | apply Kd.N_drewN | apply Kd.N_drew)); exact HO_5.out) hb) (Kd.N_base (Kd.R_N ho0))) (Kd.R_base ho1)) (fun _ h_ => h_.1))
                               have n1_ := Aside0.mk (Kd.N_mono (Kd.N_told (Kd.N_told (Kd.N_old (by (with_reducible repeat (first | apply Kd.N_alloc | apply Kd.N_drewN | apply Kd.N_drew)); exact HO_339004.out) hb) (Kd.N_base (Kd.R_N ho0))) (Kd.R_base ho1)) (fun _ h_ => h_.1))
                               have n2_ := Aside0.mk (Kd.R_elder' (by (with_reducible repeat (first | apply Kd.R_alloc | apply Kd.R_drewN | apply Kd.R_drew)); exact HO_339005.out) (Kd.R_base ho1) hb)
                               have n3_ := Aside0.mk (Kd.N_lower (Kd.N_mono (ok' := fun k_ => some k_ ≠ (v365 : Value).ownBlock ∧ some k_ ≠ (.slice Ao34 x5_2.length co34 : Value).ownBlock ∧ some k_ ≠ (.slice Ao38 t332.length co38 : Value).ownBlock ∧ some k_ ≠ (.slice Ao39 t335.length co39 : Value).ownBlock ∧ k_ ≠ gb338) (Kd.R_N (Kd.R_bound ho0)) (fun k_ hk_ => ⟨hk_.1, (Kd.fresh' (Kd.N_lt (by (with_reducible repeat (first | apply Kd.N_alloc | apply Kd.N_drewN | apply Kd.N_drew)); exact HO_5.out)) k_ hk_.2.1), (Kd.fresh' (Kd.N_lt (by (with_reducible repeat (first | apply Kd.N_alloc | apply Kd.N_drewN | apply Kd.N_drew)); exact HO_339004.out)) k_ hk_.2.1), (Kd.fresh' (Kd.R_lt (by (with_reducible repeat (first | apply Kd.R_alloc | apply Kd.R_drewN | apply Kd.R_drew)); exact HO_339005.out)) k_ hk_.2.1), (Kd.freshB (g := gb338) (o := .cells #[.int .i64 t328, .bool t329, .int .i64 t330, .string t331, .slice Ao38 t332.length co38, .slice Ao39 t335.length co39] 25 (0, 0)) (by (with_reducible repeat (first | refine qAg ?_ _ | refine qAh ?_ | refine blk_alloc ?_ _)); exact BK338.out) k_ hk_.2.1)⟩)) (qAj (by repeat (first | (with_reducible first | exact HB.out | apply qAd | apply qAc | apply qAe | refine qAf ?_ GE338.out) | exact HB.out))))
                               have n4_ := Aside0.mk (Kd.R_lower (Kd.R_new' ho1 (Kd.R_lt (by (with_reducible repeat (first | apply Kd.R_alloc | apply Kd.R_drewN | apply Kd.R_drew)); exact HO_339005.out))) (qAj (by repeat (first | (with_reducible first | exact HB.out | apply qAd | apply qAc | apply qAe | refine qAf ?_ GE338.out) | exact HB.out))))
                               have n5_ := Aside0.mk (qAk (g := gb338) (o := .cells #[.int .i64 t328, .bool t329, .int .i64 t330, .string t331, .slice Ao38 t332.length co38, .slice Ao39 t335.length co39] 25 (0, 0)) (by (with_reducible repeat (first | refine qAg ?_ _ | refine qAh ?_ | refine blk_alloc ?_ _)); exact BK338.out) hb)
                               have n6_ := Aside0.mk (qAi (by repeat (first | (with_reducible first | exact HB.out | apply qAd | apply qAc | apply qAe | refine qAf ?_ GE338.out) | exact HB.out)) hb)
                               clear HO_5
                               clear HO_339004
                               clear HO_339005
                               clear BK338
                               clear HB
                               have HO_5 := n0_
                               have HO_339004 := n1_
                               have HO_339005 := n2_
                               have HO363 := n3_
                               have HO366 := n4_
                               have BK338 := n5_
                               have HB := n6_
                               clear n0_ n1_ n2_ n3_ n4_ n5_ n6_
                               (try clear hb)
                               (try clear hb2)
                               (try clear hk)
                               (try clear hi)
                               (try clear ho0)
                               (try clear ho1)
                               refine hK.out _ _ ⟨(qAa BK338.out 0).trans rfl, (qAa BK338.out 1).trans rfl, (qAa BK338.out 2).trans rfl, (qAa BK338.out 3).trans rfl, (qAa BK338.out 4).trans rfl, (qAa BK338.out 5).trans rfl, ((HB.out.cell (World.block_lt_of_cell? w _ hw356_0)).trans hw356_0)⟩ (fun hHeld => ?_)
                               clear hK K
                               refine norm_ (a' := ?_) ?_ ?_
                               rotate_left
                               ·show Act.put _ (some 162) _ = _
                                simp only [Act.put, List.setIfInBounds_toArray, List.set_cons_zero, List.set_cons_succ, i64_w, i32_w]
                                rfl
                               refine pure_ (i := 6) (N := some 156) (v := ?_) (a' := ?_) (hogsheadlaw15_ValueKeys.bm 12 127) rfl rfl (any_of HT_.out (by kernel_rfl)) (fun _ _ _ h => h) (Or.inl ⟨by rfl, ?_⟩) ?_ ?_
                               rotate_left
                               ·intro w'
                                go_simp
                                with_reducible rfl
                               rotate_left
                               ·simp only [Act.put, List.setIfInBounds_toArray, List.set_cons_zero, List.set_cons_succ, i64_w, i32_w]
                                rfl
                               refine pure_ (i := 7) (N := some 163) (v := ?_) (a' := ?_) (hogsheadlaw15_ValueKeys.bm 12 255) rfl rfl (any_of HT_.out (by kernel_rfl)) (fun _ _ _ h => h) (Or.inl ⟨by rfl, ?_⟩) ?_ ?_
                               rotate_left
                               ·intro w'
                                go_simp
                                with_reducible rfl
                               rotate_left
                               ·simp only [Act.put, List.setIfInBounds_toArray, List.set_cons_zero, List.set_cons_succ, i64_w, i32_w]
                                rfl
                               refine pure_ (i := 8) (N := some 164) (v := ?_) (a' := ?_) (hogsheadlaw15_ValueKeys.bm 12 511) rfl rfl (any_of HT_.out (by kernel_rfl)) (fun _ _ _ h => h) (Or.inl ⟨by rfl, ?_⟩) ?_ ?_
                               rotate_left
                               ·intro w'
                                go_simp
                                with_reducible rfl
                               rotate_left
                               ·simp only [Act.put, List.setIfInBounds_toArray, List.set_cons_zero, List.set_cons_succ, i64_w, i32_w]
                                rfl
                               refine one_ (i := 9) (N := some 16) (hogsheadlaw15_ValueKeys.bm 12 1023) rfl rfl (one_of HT_.out (by kernel_rfl)) (by decide) (fun K hK => ?_)
                               refine qFx ?hg (N := 16) ?hd (cs := #[.int .i64 0, .bool false, .int .i64 0, .string (⟨#[]⟩ : ByteArray), .slice none 0 0, .slice none 0 0]) (t := 25) ?hr ?_; (case hd => rfl); (case hg => rfl); (case hr => first | (go_simp; done) | (go_simp; rfl))
                               intro gb368 hg w96 hbox hb
                               have n0_ := Aside0.mk (Kd.N_below (Kd.N_elderB (by (with_reducible repeat (first | apply Kd.N_alloc | apply Kd.N_drewN | apply Kd.N_drew)); exact HO_5.out) gb368 (Nat.le_of_eq hg.symm)) hb)
                               have n1_ := Aside0.mk (Kd.N_below (Kd.N_elderB (by (with_reducible repeat (first | apply Kd.N_alloc | apply Kd.N_drewN | apply Kd.N_drew)); exact HO_339004.out) gb368 (Nat.le_of_eq hg.symm)) hb)
                               have n2_ := Aside0.mk (Kd.R_below (by (with_reducible repeat (first | apply Kd.R_alloc | apply Kd.R_drewN | apply Kd.R_drew)); exact HO_339005.out) hb)
                               have n3_ := Aside0.mk (Kd.N_below (Kd.N_elderB (by (with_reducible repeat (first | apply Kd.N_alloc | apply Kd.N_drewN | apply Kd.N_drew)); exact HO363.out) gb368 (Nat.le_of_eq hg.symm)) hb)
                               have n4_ := Aside0.mk (Kd.R_below (by (with_reducible repeat (first | apply Kd.R_alloc | apply Kd.R_drewN | apply Kd.R_drew)); exact HO366.out) hb)
                               have n5_ := Aside0.mk (qAk (g := gb338) (o := .cells #[.int .i64 t328, .bool t329, .int .i64 t330, .string t331, .slice Ao38 t332.length co38, .slice Ao39 t335.length co39] 25 (0, 0)) (by (with_reducible repeat (first | refine qAg ?_ _ | refine qAh ?_ | refine blk_alloc ?_ _)); exact BK338.out) hb)
                               have n6_ := Aside0.mk (qAi (by repeat (first | (with_reducible first | exact HB.out | apply qAd | apply qAc | apply qAe | refine qAf ?_ GE338.out) | exact HB.out)) hb)
                               have n7_ := Aside0.mk (hbox)
                               have n8_ := Aside0.mk ((by rw [hg]; exact (qAj (by repeat (first | (with_reducible first | exact HB.out | apply qAd | apply qAc | apply qAe | refine qAf ?_ GE338.out) | exact HB.out))) : w.heap.size ≤ gb368))
                               have n9_ := Aside0.mk ((by rw [hg]; exact (qAj (by repeat (first | (with_reducible first | exact HB.out | apply qAd | apply qAc | apply qAe | refine qAf ?_ GE338.out) | exact HB.out))) : w.heap.size ≤ gb368))
                               have n10_ := Aside0.mk ((by rw [hg]; exact Nat.ne_of_lt (blk_lt (g := gb338) (o := .cells #[.int .i64 t328, .bool t329, .int .i64 t330, .string t331, .slice Ao38 t332.length co38, .slice Ao39 t335.length co39] 25 (0, 0)) (by (with_reducible repeat (first | refine qAg ?_ _ | refine qAh ?_ | refine blk_alloc ?_ _)); exact BK338.out)) : gb338 ≠ gb368))
                               have n11_ := Aside0.mk ((by rw [hg]; exact Nat.ne_of_gt (blk_lt (g := gb338) (o := .cells #[.int .i64 t328, .bool t329, .int .i64 t330, .string t331, .slice Ao38 t332.length co38, .slice Ao39 t335.length co39] 25 (0, 0)) (by (with_reducible repeat (first | refine qAg ?_ _ | refine qAh ?_ | refine blk_alloc ?_ _)); exact BK338.out)) : gb368 ≠ gb338))
                               clear HO_5
                               clear HO_339004
                               clear HO_339005
                               clear HO363
                               clear HO366
                               clear BK338
                               clear HB
                               have HO_5 := n0_
                               have HO_339004 := n1_
                               have HO_339005 := n2_
                               have HO363 := n3_
                               have HO366 := n4_
                               have BK338 := n5_
                               have HB := n6_
                               have BK368 := n7_
                               have GW368 := n8_
                               have GE368 := n9_
                               have NB338_368 := n10_
                               have NB368_338 := n11_
                               clear n0_ n1_ n2_ n3_ n4_ n5_ n6_ n7_ n8_ n9_ n10_ n11_
                               clear hb hbox hg
                               refine hK.out _ _ ⟨(qAa BK338.out 0).trans rfl, (qAa BK338.out 1).trans rfl, (qAa BK338.out 2).trans rfl, (qAa BK338.out 3).trans rfl, (qAa BK338.out 4).trans rfl, (qAa BK338.out 5).trans rfl, ((HB.out.cell (World.block_lt_of_cell? w _ hw356_0)).trans hw356_0)⟩ (fun hHeld => ?_)
                               clear hK K
                               refine norm_ (a' := ?_) ?_ ?_
                               rotate_left
                               ·show Act.put _ (some 16) _ = _
                                simp only [Act.put, List.setIfInBounds_toArray, List.set_cons_zero, List.set_cons_succ, i64_w, i32_w]
                                rfl
                               exact norm_ (by simp only [putAll, Act.put, List.setIfInBounds_toArray, List.set_cons_zero, List.set_cons_succ]) (hCont (v362, v365, gb368) _ ⟨hHeld, (by (with_reducible repeat (first | apply Kd.N_alloc | apply Kd.N_drewN | apply Kd.N_drew)); exact Kd.N_mono HO363.out (fun _ hk => ⟨hk.1.1, ⟨hk.1.2.2.1, ⟨hk.1.2.2.2.1, ⟨hk.1.2.1, ⟨hk.1.2.2.2.2, hk.2⟩⟩⟩⟩⟩)), (by (with_reducible repeat (first | apply Kd.R_alloc | apply Kd.R_drewN | apply Kd.R_drew)); exact Kd.R_mono HO366.out (fun _ hk => hk.2)), (by (with_reducible repeat (first | apply Kd.N_alloc | apply Kd.N_drewN | apply Kd.N_drew)); exact Kd.N_mono HO_339004.out (fun _ hk => ⟨hk.1.1.2, ⟨hk.1.2, ⟨hk.1.1.1.2.1, ⟨hk.1.1.1.1, ⟨hk.1.1.1.2.2, hk.2⟩⟩⟩⟩⟩)), (by (with_reducible repeat (first | apply Kd.R_alloc | apply Kd.R_drewN | apply Kd.R_drew)); exact Kd.R_mono HO_339005.out (fun _ hk => hk.2)), (by (with_reducible repeat (first | apply Kd.N_alloc | apply Kd.N_drewN | apply Kd.N_drew)); exact Kd.N_mono HO_5.out (fun _ hk => ⟨hk.1.1.2, ⟨hk.1.2, ⟨hk.1.1.1.1, ⟨hk.1.1.1.2.1, ⟨hk.1.1.1.2.2, hk.2⟩⟩⟩⟩⟩)), (by (with_reducible repeat (first | refine qAg ?_ _ | refine qAh ?_ | refine blk_alloc ?_ _)); exact BK338.out), (by (with_reducible repeat (first | refine qAg ?_ _ | refine qAh ?_ | refine blk_alloc ?_ _)); exact BK368.out), GW368.out, GE368.out, NB338_368.out, NB368_338.out, (by repeat (first | (with_reducible first | exact HB.out | apply qAd | apply qAc | apply qAe | refine qAf ?_ GE338.out | refine qAf ?_ GE368.out) | exact HB.out))⟩)
                              ·skip
                               refine qFx ?hg (N := 16) ?hd (cs := #[.int .i64 0, .bool false, .int .i64 0, .string (⟨#[]⟩ : ByteArray), .slice none 0 0, .slice none 0 0]) (t := 25) ?hr ?_; (case hd => rfl); (case hg => rfl); (case hr => first | (go_simp; done) | (go_simp; rfl))
                               intro gb368 hg w95 hbox hb
                               have n0_ := Aside0.mk (Kd.N_below (Kd.N_elderB (by (with_reducible repeat (first | apply Kd.N_alloc | apply Kd.N_drewN | apply Kd.N_drew)); exact HO_5.out) gb368 (Nat.le_of_eq hg.symm)) hb)
                               have n1_ := Aside0.mk (Kd.N_below (Kd.N_elderB (by (with_reducible repeat (first | apply Kd.N_alloc | apply Kd.N_drewN | apply Kd.N_drew)); exact HO_339004.out) gb368 (Nat.le_of_eq hg.symm)) hb)
                               have n2_ := Aside0.mk (Kd.R_below (by (with_reducible repeat (first | apply Kd.R_alloc | apply Kd.R_drewN | apply Kd.R_drew)); exact HO_339005.out) hb)
                               have n3_ := Aside0.mk (qAk (g := gb338) (o := .cells #[.int .i64 t328, .bool t329, .int .i64 t330, .string t331, .slice Ao38 t332.length co38, .slice Ao39 t335.length co39] 25 (0, 0)) (by (with_reducible repeat (first | refine qAg ?_ _ | refine qAh ?_ | refine blk_alloc ?_ _)); exact BK338.out) hb)
                               have n4_ := Aside0.mk (qAi (by repeat (first | (with_reducible first | exact HB.out | apply qAd | apply qAc | apply qAe | refine qAf ?_ GE338.out) | exact HB.out)) hb)
                               have n5_ := Aside0.mk (hbox)
                               have n6_ := Aside0.mk ((by rw [hg]; exact (qAj (by repeat (first | (with_reducible first | exact HB.out | apply qAd | apply qAc | apply qAe | refine qAf ?_ GE338.out) | exact HB.out))) : w.heap.size ≤ gb368))
                               have n7_ := Aside0.mk ((by rw [hg]; exact (qAj (by repeat (first | (with_reducible first | exact HB.out | apply qAd | apply qAc | apply qAe | refine qAf ?_ GE338.out) | exact HB.out))) : w.heap.size ≤ gb368))
                               have n8_ := Aside0.mk ((by rw [hg]; exact Nat.ne_of_lt (blk_lt (g := gb338) (o := .cells #[.int .i64 t328, .bool t329, .int .i64 t330, .string t331, .slice Ao38 t332.length co38, .slice Ao39 t335.length co39] 25 (0, 0)) (by (with_reducible repeat (first | refine qAg ?_ _ | refine qAh ?_ | refine blk_alloc ?_ _)); exact BK338.out)) : gb338 ≠ gb368))
                               have n9_ := Aside0.mk ((by rw [hg]; exact Nat.ne_of_gt (blk_lt (g := gb338) (o := .cells #[.int .i64 t328, .bool t329, .int .i64 t330, .string t331, .slice Ao38 t332.length co38, .slice Ao39 t335.length co39] 25 (0, 0)) (by (with_reducible repeat (first | refine qAg ?_ _ | refine qAh ?_ | refine blk_alloc ?_ _)); exact BK338.out)) : gb368 ≠ gb338))
                               clear HO_5
                               clear HO_339004
                               clear HO_339005
                               clear BK338
                               clear HB
                               have HO_5 := n0_
                               have HO_339004 := n1_
                               have HO_339005 := n2_
                               have BK338 := n3_
                               have HB := n4_
                               have BK368 := n5_
                               have GW368 := n6_
                               have GE368 := n7_
                               have NB338_368 := n8_
                               have NB368_338 := n9_
                               clear n0_ n1_ n2_ n3_ n4_ n5_ n6_ n7_ n8_ n9_
                               clear hb hbox hg
                               refine hK.out _ _ ⟨(qAa BK338.out 0).trans rfl, (qAa BK338.out 1).trans rfl, (qAa BK338.out 2).trans rfl, (qAa BK338.out 3).trans rfl, (qAa BK338.out 4).trans rfl, (qAa BK338.out 5).trans rfl, ((HB.out.cell (World.block_lt_of_cell? w _ hw356_0)).trans hw356_0)⟩ (fun hHeld => ?_)
                               clear hK K
                               refine norm_ (a' := ?_) ?_ ?_
                               rotate_left
                               ·show Act.put _ (some 16) _ = _
                                simp only [Act.put, List.setIfInBounds_toArray, List.set_cons_zero, List.set_cons_succ, i64_w, i32_w]
                                rfl
                               refine one_ (i := 5) (N := some 162) (hogsheadlaw15_ValueKeys.bm 12 575) rfl rfl (one_of HT_.out (by kernel_rfl)) (by decide) (fun K hK => ?_)
                               refine goes_ Tryd.func18 (by kernel_rfl) rfl #[.agg #[.int .i64 t328, .bool t329, .int .i64 t330, .string t331, .slice Ao38 t332.length co38, .slice Ao39 t335.length co39], .string (rdOf ByteArray.empty l0 x14_6)] (by rfl) rfl rfl (by (try simp only [List.map_toArray, List.map_cons, List.map_nil]); first | done | rfl | (simp only [List.length_drop, List.length_take]; rfl)) ?_
                               with_reducible refine (value_Get.calls k7 t328 t329 t330 t331 _ _ t332 _ _ t335 (rdOf ByteArray.empty l0 x14_6) t357 t358 t359 t360 t361 t364 true _ ?side1 ?side2 ?side3 ?side4 A88.out).mono ?_
                               (case side1 => repeat (first | exact (Kd.N_reads' HO_339004.out).2.2 | (with_reducible refine Kd.C_alloc ?_ _) | (with_reducible refine Kd.C_drewN ?_ _) | (with_reducible refine Kd.C_drew ?_)))
                               (case side2 => exact (Kd.N_reads' HO_339004.out).2.1)
                               (case side3 => repeat (first | exact (Kd.R_reads' HO_339005.out).2.2 | (with_reducible refine Kd.C_alloc ?_ _) | (with_reducible refine Kd.C_drewN ?_ _) | (with_reducible refine Kd.C_drew ?_)))
                               (case side4 => exact (Kd.R_reads' HO_339005.out).2.1)
                               rintro e w96 ⟨v362, v365, rfl, ho0, ho1, hb⟩
                               refine ⟨_, rfl, ?_⟩
                               have n0_ := Aside0.mk (Kd.N_mono (Kd.N_told (Kd.N_told (Kd.N_old (by (with_reducible repeat (first | apply Kd.N_alloc | apply Kd.N_drewN | apply Kd.N_drew)); exact HO_5.out) hb) (Kd.N_base (Kd.R_N ho0))) (Kd.R_base ho1)) (fun _ h_ => h_.1))
                               have n1_ := Aside0.mk (Kd.N_mono (Kd.N_told (Kd.N_told (Kd.N_old (by (with_reducible repeat (first | apply Kd.N_alloc | apply Kd.N_drewN | apply Kd.N_drew)); exact HO_339004.out) hb) (Kd.N_base (Kd.R_N ho0))) (Kd.R_base ho1)) (fun _ h_ => h_.1))
                               have n2_ := Aside0.mk (Kd.R_elder' (by (with_reducible repeat (first | apply Kd.R_alloc | apply Kd.R_drewN | apply Kd.R_drew)); exact HO_339005.out) (Kd.R_base ho1) hb)
                               have n3_ := Aside0.mk (Kd.N_lower (Kd.N_mono (ok' := fun k_ => some k_ ≠ (v365 : Value).ownBlock ∧ some k_ ≠ (.slice Ao34 x5_2.length co34 : Value).ownBlock ∧ some k_ ≠ (.slice Ao38 t332.length co38 : Value).ownBlock ∧ some k_ ≠ (.slice Ao39 t335.length co39 : Value).ownBlock ∧ k_ ≠ gb338 ∧ k_ ≠ gb368) (Kd.R_N (Kd.R_bound ho0)) (fun k_ hk_ => ⟨hk_.1, (Kd.fresh' (Kd.N_lt (by (with_reducible repeat (first | apply Kd.N_alloc | apply Kd.N_drewN | apply Kd.N_drew)); exact HO_5.out)) k_ hk_.2.1), (Kd.fresh' (Kd.N_lt (by (with_reducible repeat (first | apply Kd.N_alloc | apply Kd.N_drewN | apply Kd.N_drew)); exact HO_339004.out)) k_ hk_.2.1), (Kd.fresh' (Kd.R_lt (by (with_reducible repeat (first | apply Kd.R_alloc | apply Kd.R_drewN | apply Kd.R_drew)); exact HO_339005.out)) k_ hk_.2.1), (Kd.freshB (g := gb338) (o := .cells #[.int .i64 t328, .bool t329, .int .i64 t330, .string t331, .slice Ao38 t332.length co38, .slice Ao39 t335.length co39] 25 (0, 0)) (by (with_reducible repeat (first | refine qAg ?_ _ | refine qAh ?_ | refine blk_alloc ?_ _)); exact BK338.out) k_ hk_.2.1), (Kd.freshB (g := gb368) (o := .cells #[.int .i64 0, .bool false, .int .i64 0, .string (⟨#[]⟩ : ByteArray), .slice none 0 0, .slice none 0 0] 25 (0, 0)) (by (with_reducible repeat (first | refine qAg ?_ _ | refine qAh ?_ | refine blk_alloc ?_ _)); exact BK368.out) k_ hk_.2.1)⟩)) (qAj (by repeat (first | (with_reducible first | exact HB.out | apply qAd | apply qAc | apply qAe | refine qAf ?_ GE338.out | refine qAf ?_ GE368.out) | exact HB.out))))
                               have n4_ := Aside0.mk (Kd.R_lower (Kd.R_new' ho1 (Kd.R_lt (by (with_reducible repeat (first | apply Kd.R_alloc | apply Kd.R_drewN | apply Kd.R_drew)); exact HO_339005.out))) (qAj (by repeat (first | (with_reducible first | exact HB.out | apply qAd | apply qAc | apply qAe | refine qAf ?_ GE338.out | refine qAf ?_ GE368.out) | exact HB.out))))
                               have n5_ := Aside0.mk (qAk (g := gb338) (o := .cells #[.int .i64 t328, .bool t329, .int .i64 t330, .string t331, .slice Ao38 t332.length co38, .slice Ao39 t335.length co39] 25 (0, 0)) (by (with_reducible repeat (first | refine qAg ?_ _ | refine qAh ?_ | refine blk_alloc ?_ _)); exact BK338.out) hb)
                               have n6_ := Aside0.mk (qAk (g := gb368) (o := .cells #[.int .i64 0, .bool false, .int .i64 0, .string (⟨#[]⟩ : ByteArray), .slice none 0 0, .slice none 0 0] 25 (0, 0)) (by (with_reducible repeat (first | refine qAg ?_ _ | refine qAh ?_ | refine blk_alloc ?_ _)); exact BK368.out) hb)
                               have n7_ := Aside0.mk (qAi (by repeat (first | (with_reducible first | exact HB.out | apply qAd | apply qAc | apply qAe | refine qAf ?_ GE338.out | refine qAf ?_ GE368.out) | exact HB.out)) hb)
                               clear HO_5
                               clear HO_339004
                               clear HO_339005
                               clear BK338
                               clear BK368
                               clear HB
                               have HO_5 := n0_
                               have HO_339004 := n1_
                               have HO_339005 := n2_
                               have HO363 := n3_
                               have HO366 := n4_
                               have BK338 := n5_
                               have BK368 := n6_
                               have HB := n7_
                               clear n0_ n1_ n2_ n3_ n4_ n5_ n6_ n7_
                               (try clear hb)
                               (try clear hb2)
                               (try clear hk)
                               (try clear hi)
                               (try clear ho0)
                               (try clear ho1)
                               refine hK.out _ _ ⟨(qAa BK338.out 0).trans rfl, (qAa BK338.out 1).trans rfl, (qAa BK338.out 2).trans rfl, (qAa BK338.out 3).trans rfl, (qAa BK338.out 4).trans rfl, (qAa BK338.out 5).trans rfl, ((HB.out.cell (World.block_lt_of_cell? w _ hw356_0)).trans hw356_0)⟩ (fun hHeld => ?_)
                               clear hK K
                               refine norm_ (a' := ?_) ?_ ?_
                               rotate_left
                               ·show Act.put _ (some 162) _ = _
                                simp only [Act.put, List.setIfInBounds_toArray, List.set_cons_zero, List.set_cons_succ, i64_w, i32_w]
                                rfl
                               refine pure_ (i := 6) (N := some 156) (v := ?_) (a' := ?_) (hogsheadlaw15_ValueKeys.bm 12 639) rfl rfl (any_of HT_.out (by kernel_rfl)) (fun _ _ _ h => h) (Or.inl ⟨by rfl, ?_⟩) ?_ ?_
                               rotate_left
                               ·intro w'
                                go_simp
                                with_reducible rfl
                               rotate_left
                               ·simp only [Act.put, List.setIfInBounds_toArray, List.set_cons_zero, List.set_cons_succ, i64_w, i32_w]
                                rfl
                               refine pure_ (i := 7) (N := some 163) (v := ?_) (a' := ?_) (hogsheadlaw15_ValueKeys.bm 12 767) rfl rfl (any_of HT_.out (by kernel_rfl)) (fun _ _ _ h => h) (Or.inl ⟨by rfl, ?_⟩) ?_ ?_
                               rotate_left
                               ·intro w'
                                go_simp
                                with_reducible rfl
                               rotate_left
                               ·simp only [Act.put, List.setIfInBounds_toArray, List.set_cons_zero, List.set_cons_succ, i64_w, i32_w]
                                rfl
                               refine pure_ (i := 8) (N := some 164) (v := ?_) (a' := ?_) (hogsheadlaw15_ValueKeys.bm 12 1023) rfl rfl (any_of HT_.out (by kernel_rfl)) (fun _ _ _ h => h) (Or.inl ⟨by rfl, ?_⟩) ?_ ?_
                               rotate_left
                               ·intro w'
                                go_simp
                                with_reducible rfl
                               rotate_left
                               ·simp only [Act.put, List.setIfInBounds_toArray, List.set_cons_zero, List.set_cons_succ, i64_w, i32_w]
                                rfl
                               exact norm_ (by simp only [putAll, Act.put, List.setIfInBounds_toArray, List.set_cons_zero, List.set_cons_succ]) (hCont (v362, v365, gb368) _ ⟨hHeld, (by (with_reducible repeat (first | apply Kd.N_alloc | apply Kd.N_drewN | apply Kd.N_drew)); exact Kd.N_mono HO363.out (fun _ hk => ⟨hk.1, ⟨hk.2.2.1, ⟨hk.2.2.2.1, ⟨hk.2.1, ⟨hk.2.2.2.2.1, hk.2.2.2.2.2⟩⟩⟩⟩⟩)), (by (with_reducible repeat (first | apply Kd.R_alloc | apply Kd.R_drewN | apply Kd.R_drew)); exact Kd.R_mono HO366.out (fun _ hk => hk.2)), (by (with_reducible repeat (first | apply Kd.N_alloc | apply Kd.N_drewN | apply Kd.N_drew)); exact Kd.N_mono HO_339004.out (fun _ hk => ⟨hk.1.2, ⟨hk.2, ⟨hk.1.1.1.2.1, ⟨hk.1.1.1.1, ⟨hk.1.1.1.2.2, hk.1.1.2⟩⟩⟩⟩⟩)), (by (with_reducible repeat (first | apply Kd.R_alloc | apply Kd.R_drewN | apply Kd.R_drew)); exact Kd.R_mono HO_339005.out (fun _ hk => hk.2)), (by (with_reducible repeat (first | apply Kd.N_alloc | apply Kd.N_drewN | apply Kd.N_drew)); exact Kd.N_mono HO_5.out (fun _ hk => ⟨hk.1.2, ⟨hk.2, ⟨hk.1.1.1.1, ⟨hk.1.1.1.2.1, ⟨hk.1.1.1.2.2, hk.1.1.2⟩⟩⟩⟩⟩)), (by (with_reducible repeat (first | refine qAg ?_ _ | refine qAh ?_ | refine blk_alloc ?_ _)); exact BK338.out), (by (with_reducible repeat (first | refine qAg ?_ _ | refine qAh ?_ | refine blk_alloc ?_ _)); exact BK368.out), GW368.out, GE368.out, NB338_368.out, NB368_338.out, (by repeat (first | (with_reducible first | exact HB.out | apply qAd | apply qAc | apply qAe | refine qAf ?_ GE338.out | refine qAf ?_ GE368.out) | exact HB.out))⟩)
                             rintro ⟨v362, v365, gb368⟩ w97 ⟨hS_, h0_, h1_, h2_, h3_, h4_, h5_, h6_, h7_, h8_, h9_, h10_, h11_⟩
                             have n0_ : Aside0 (Kd.N k25 25 w97 w.heap.size (fun k_ => some k_ ≠ (v365 : Value).ownBlock ∧ some k_ ≠ (.slice Ao38 t332.length co38 : Value).ownBlock ∧ some k_ ≠ (.slice Ao39 t335.length co39 : Value).ownBlock ∧ some k_ ≠ (.slice Ao34 x5_2.length co34 : Value).ownBlock ∧ k_ ≠ gb338 ∧ k_ ≠ gb368) v362 t361) := ⟨h0_⟩
                             have n1_ : Aside0 (Kd.R Kd.string 9 w97 w.heap.size (fun k_ => some k_ ≠ (.slice Ao39 t335.length co39 : Value).ownBlock) v365 t364) := ⟨h1_⟩
                             have n2_ : Aside0 (Kd.N k25 25 w97 w.heap.size (fun k_ => some k_ ≠ (v362 : Value).ownBlock ∧ some k_ ≠ (v365 : Value).ownBlock ∧ some k_ ≠ (.slice Ao39 t335.length co39 : Value).ownBlock ∧ some k_ ≠ (.slice Ao34 x5_2.length co34 : Value).ownBlock ∧ k_ ≠ gb338 ∧ k_ ≠ gb368) (.slice Ao38 t332.length co38) t332) := ⟨h2_⟩
                             have n3_ : Aside0 (Kd.R Kd.string 9 w97 w.heap.size (fun k_ => some k_ ≠ (v365 : Value).ownBlock) (.slice Ao39 t335.length co39) t335) := ⟨h3_⟩
                             have n4_ : Aside0 (Kd.N k25 25 w97 w.heap.size (fun k_ => some k_ ≠ (v362 : Value).ownBlock ∧ some k_ ≠ (v365 : Value).ownBlock ∧ some k_ ≠ (.slice Ao38 t332.length co38 : Value).ownBlock ∧ some k_ ≠ (.slice Ao39 t335.length co39 : Value).ownBlock ∧ k_ ≠ gb338 ∧ k_ ≠ gb368) (.slice Ao34 x5_2.length co34) x5_2) := ⟨h4_⟩
                             have n5_ : Aside0 (w97.heap[gb338]? = some (.cells #[.int .i64 t328, .bool t329, .int .i64 t330, .string t331, .slice Ao38 t332.length co38, .slice Ao39 t335.length co39] 25 (0, 0))) := ⟨h5_⟩
                             have n6_ : Aside0 (w97.heap[gb368]? = some (.cells #[.int .i64 0, .bool false, .int .i64 0, .string (⟨#[]⟩ : ByteArray), .slice none 0 0, .slice none 0 0] 25 (0, 0))) := ⟨h6_⟩
                             have n7_ : Aside0 (w.heap.size ≤ gb368) := ⟨h7_⟩
                             have n8_ : Aside0 (w.heap.size ≤ gb368) := ⟨h8_⟩
                             have n9_ : Aside0 (gb338 ≠ gb368) := ⟨h9_⟩
                             have n10_ : Aside0 (gb368 ≠ gb338) := ⟨h10_⟩
                             have n11_ : Aside0 (Below w.heap.size w w97) := ⟨h11_⟩
                             clear HO_5
                             clear HO_339004
                             clear HO_339005
                             clear BK338
                             clear HB
                             clear h0_ h1_ h2_ h3_ h4_ h5_ h6_ h7_ h8_ h9_ h10_ h11_
                             have HO363 := n0_
                             have HO366 := n1_
                             have HO_339004 := n2_
                             have HO_339005 := n3_
                             have HO_5 := n4_
                             have BK338 := n5_
                             have BK368 := n6_
                             have GW368 := n7_
                             have GE368 := n8_
                             have NB338_368 := n9_
                             have NB368_338 := n10_
                             have HB := n11_
                             clear n0_ n1_ n2_ n3_ n4_ n5_ n6_ n7_ n8_ n9_ n10_ n11_
                             have hHeld : w97.cell? ⟨gb338, 0, none⟩ = some (.int .i64 t328) ∧ w97.cell? ⟨gb338, 1, none⟩ = some (.bool t329) ∧ w97.cell? ⟨gb338, 2, none⟩ = some (.int .i64 t330) ∧ w97.cell? ⟨gb338, 3, none⟩ = some (.string t331) ∧ w97.cell? ⟨gb338, 4, none⟩ = some (.slice Ao38 t332.length co38) ∧ w97.cell? ⟨gb338, 5, none⟩ = some (.slice Ao39 t335.length co39) ∧ w97.cell? (ad354.add (x14_6).toNat) = some (.string (rdOf ByteArray.empty l0 x14_6)) := hS_
                             obtain ⟨Ao102, co102, eo102⟩ := Kd.N_slice HO363.out
                             (first | subst eo102 | (injection eo102 with f1_ f2_ f3_; have f4_ := f1_.symm; have f5_ := f3_.symm; clear f1_ f2_ f3_; subst f4_; subst f5_))
                             obtain ⟨Ao104, co104, eo104⟩ := Kd.R_slice HO366.out
                             (first | subst eo104 | (injection eo104 with f1_ f2_ f3_; have f4_ := f1_.symm; have f5_ := f3_.symm; clear f1_ f2_ f3_; subst f4_; subst f5_))
                             refine norm_ (a' := ?_) ?_ ?_
                             rotate_left
                             ·simp only [putAll, Act.put, List.setIfInBounds_toArray, List.set_cons_zero, List.set_cons_succ]
                              rfl
                             refine one_ (i := 10) (N := none) (hogsheadlaw15_ValueKeys.bm 12 2047) rfl rfl (one_of HT_.out (by kernel_rfl)) (by decide) (fun K hK => ?_)
                             have hs98 : w97.cell? ⟨gb368, 0, none⟩ = some (.int .i64 0) := (qAa BK368.out 0).trans rfl
                             have hfs98 := qAb BK368.out 0
                             have hns98_0 := NB338_368.out
                             have hms98_0 := NB368_338.out
                             have hs99 : w97.cell? ⟨gb368, 1, none⟩ = some (.bool false) := (qAa BK368.out 1).trans rfl
                             have hfs99 := qAb BK368.out 1
                             have hns99_0 := NB338_368.out
                             have hms99_0 := NB368_338.out
                             have hs100 : w97.cell? ⟨gb368, 2, none⟩ = some (.int .i64 0) := (qAa BK368.out 2).trans rfl
                             have hfs100 := qAb BK368.out 2
                             have hns100_0 := NB338_368.out
                             have hms100_0 := NB368_338.out
                             have hs101 : w97.cell? ⟨gb368, 3, none⟩ = some (.string (⟨#[]⟩ : ByteArray)) := (qAa BK368.out 3).trans rfl
                             have hfs101 := qAb BK368.out 3
                             have hns101_0 := NB338_368.out
                             have hms101_0 := NB368_338.out
                             have hs103 : w97.cell? ⟨gb368, 4, none⟩ = some (.slice none 0 0) := (qAa BK368.out 4).trans rfl
                             have hfs103 := qAb BK368.out 4
                             have hns103_0 := NB338_368.out
                             have hms103_0 := NB368_338.out
                             have hs105 : w97.cell? ⟨gb368, 5, none⟩ = some (.slice none 0 0) := (qAa BK368.out 5).trans rfl
                             have hfs105 := qAb BK368.out 5
                             have hns105_0 := NB338_368.out
                             have hms105_0 := NB368_338.out
                             refine skip_ (w1 := ?_) (by rfl) rfl ?_ ?_
                             rotate_left
                             ·go_simp
                              rfl
                             refine hK.out _ _ ⟨((qAq (p := ⟨gb368, _, none⟩) NB338_368.out _).trans (((qAq (p := ⟨gb368, _, none⟩) NB338_368.out _).trans (((qAq (p := ⟨gb368, _, none⟩) NB338_368.out _).trans (((qAq (p := ⟨gb368, _, none⟩) NB338_368.out _).trans (((qAq (p := ⟨gb368, _, none⟩) NB338_368.out _).trans (((qAq (p := ⟨gb368, _, none⟩) NB338_368.out _).trans (hHeld.1)))))))))))), ((qAq (p := ⟨gb368, _, none⟩) NB338_368.out _).trans (((qAq (p := ⟨gb368, _, none⟩) NB338_368.out _).trans (((qAq (p := ⟨gb368, _, none⟩) NB338_368.out _).trans (((qAq (p := ⟨gb368, _, none⟩) NB338_368.out _).trans (((qAq (p := ⟨gb368, _, none⟩) NB338_368.out _).trans (((qAq (p := ⟨gb368, _, none⟩) NB338_368.out _).trans (hHeld.2.1)))))))))))), ((qAq (p := ⟨gb368, _, none⟩) NB338_368.out _).trans (((qAq (p := ⟨gb368, _, none⟩) NB338_368.out _).trans (((qAq (p := ⟨gb368, _, none⟩) NB338_368.out _).trans (((qAq (p := ⟨gb368, _, none⟩) NB338_368.out _).trans (((qAq (p := ⟨gb368, _, none⟩) NB338_368.out _).trans (((qAq (p := ⟨gb368, _, none⟩) NB338_368.out _).trans (hHeld.2.2.1)))))))))))), ((qAq (p := ⟨gb368, _, none⟩) NB338_368.out _).trans (((qAq (p := ⟨gb368, _, none⟩) NB338_368.out _).trans (((qAq (p := ⟨gb368, _, none⟩) NB338_368.out _).trans (((qAq (p := ⟨gb368, _, none⟩) NB338_368.out _).trans (((qAq (p := ⟨gb368, _, none⟩) NB338_368.out _).trans (((qAq (p := ⟨gb368, _, none⟩) NB338_368.out _).trans (hHeld.2.2.2.1)))))))))))), ((qAq (p := ⟨gb368, _, none⟩) NB338_368.out _).trans (((qAq (p := ⟨gb368, _, none⟩) NB338_368.out _).trans (((qAq (p := ⟨gb368, _, none⟩) NB338_368.out _).trans (((qAq (p := ⟨gb368, _, none⟩) NB338_368.out _).trans (((qAq (p := ⟨gb368, _, none⟩) NB338_368.out _).trans (((qAq (p := ⟨gb368, _, none⟩) NB338_368.out _).trans (hHeld.2.2.2.2.1)))))))))))), ((qAq (p := ⟨gb368, _, none⟩) NB338_368.out _).trans (((qAq (p := ⟨gb368, _, none⟩) NB338_368.out _).trans (((qAq (p := ⟨gb368, _, none⟩) NB338_368.out _).trans (((qAq (p := ⟨gb368, _, none⟩) NB338_368.out _).trans (((qAq (p := ⟨gb368, _, none⟩) NB338_368.out _).trans (((qAq (p := ⟨gb368, _, none⟩) NB338_368.out _).trans (hHeld.2.2.2.2.2.1)))))))))))), ((qAq (p := ⟨gb368, _, none⟩) (by first | exact Nat.ne_of_lt (Nat.lt_of_lt_of_le (by have := World.block_lt_of_cell? _ _ hw356_0; first | rwa [qAo] at this | exact this) GW368.out) | (rw [qAo]; exact Nat.ne_of_lt (Nat.lt_of_lt_of_le (by have := World.block_lt_of_cell? _ _ hw356_0; first | rwa [qAo] at this | exact this) GW368.out)) | (show (Addr.add _ _).block ≠ _; rw [qAo]; exact Nat.ne_of_lt (Nat.lt_of_lt_of_le (by have := World.block_lt_of_cell? _ _ hw356_0; first | rwa [qAo] at this | exact this) GW368.out)) | (dsimp only; exact Nat.ne_of_lt (Nat.lt_of_lt_of_le (by have := World.block_lt_of_cell? _ _ hw356_0; first | rwa [qAo] at this | exact this) GW368.out))) _).trans (((qAq (p := ⟨gb368, _, none⟩) (by first | exact Nat.ne_of_lt (Nat.lt_of_lt_of_le (by have := World.block_lt_of_cell? _ _ hw356_0; first | rwa [qAo] at this | exact this) GW368.out) | (rw [qAo]; exact Nat.ne_of_lt (Nat.lt_of_lt_of_le (by have := World.block_lt_of_cell? _ _ hw356_0; first | rwa [qAo] at this | exact this) GW368.out)) | (show (Addr.add _ _).block ≠ _; rw [qAo]; exact Nat.ne_of_lt (Nat.lt_of_lt_of_le (by have := World.block_lt_of_cell? _ _ hw356_0; first | rwa [qAo] at this | exact this) GW368.out)) | (dsimp only; exact Nat.ne_of_lt (Nat.lt_of_lt_of_le (by have := World.block_lt_of_cell? _ _ hw356_0; first | rwa [qAo] at this | exact this) GW368.out))) _).trans (((qAq (p := ⟨gb368, _, none⟩) (by first | exact Nat.ne_of_lt (Nat.lt_of_lt_of_le (by have := World.block_lt_of_cell? _ _ hw356_0; first | rwa [qAo] at this | exact this) GW368.out) | (rw [qAo]; exact Nat.ne_of_lt (Nat.lt_of_lt_of_le (by have := World.block_lt_of_cell? _ _ hw356_0; first | rwa [qAo] at this | exact this) GW368.out)) | (show (Addr.add _ _).block ≠ _; rw [qAo]; exact Nat.ne_of_lt (Nat.lt_of_lt_of_le (by have := World.block_lt_of_cell? _ _ hw356_0; first | rwa [qAo] at this | exact this) GW368.out)) | (dsimp only; exact Nat.ne_of_lt (Nat.lt_of_lt_of_le (by have := World.block_lt_of_cell? _ _ hw356_0; first | rwa [qAo] at this | exact this) GW368.out))) _).trans (((qAq (p := ⟨gb368, _, none⟩) (by first | exact Nat.ne_of_lt (Nat.lt_of_lt_of_le (by have := World.block_lt_of_cell? _ _ hw356_0; first | rwa [qAo] at this | exact this) GW368.out) | (rw [qAo]; exact Nat.ne_of_lt (Nat.lt_of_lt_of_le (by have := World.block_lt_of_cell? _ _ hw356_0; first | rwa [qAo] at this | exact this) GW368.out)) | (show (Addr.add _ _).block ≠ _; rw [qAo]; exact Nat.ne_of_lt (Nat.lt_of_lt_of_le (by have := World.block_lt_of_cell? _ _ hw356_0; first | rwa [qAo] at this | exact this) GW368.out)) | (dsimp only; exact Nat.ne_of_lt (Nat.lt_of_lt_of_le (by have := World.block_lt_of_cell? _ _ hw356_0; first | rwa [qAo] at this | exact this) GW368.out))) _).trans (((qAq (p := ⟨gb368, _, none⟩) (by first | exact Nat.ne_of_lt (Nat.lt_of_lt_of_le (by have := World.block_lt_of_cell? _ _ hw356_0; first | rwa [qAo] at this | exact this) GW368.out) | (rw [qAo]; exact Nat.ne_of_lt (Nat.lt_of_lt_of_le (by have := World.block_lt_of_cell? _ _ hw356_0; first | rwa [qAo] at this | exact this) GW368.out)) | (show (Addr.add _ _).block ≠ _; rw [qAo]; exact Nat.ne_of_lt (Nat.lt_of_lt_of_le (by have := World.block_lt_of_cell? _ _ hw356_0; first | rwa [qAo] at this | exact this) GW368.out)) | (dsimp only; exact Nat.ne_of_lt (Nat.lt_of_lt_of_le (by have := World.block_lt_of_cell? _ _ hw356_0; first | rwa [qAo] at this | exact this) GW368.out))) _).trans (((qAq (p := ⟨gb368, _, none⟩) (by first | exact Nat.ne_of_lt (Nat.lt_of_lt_of_le (by have := World.block_lt_of_cell? _ _ hw356_0; first | rwa [qAo] at this | exact this) GW368.out) | (rw [qAo]; exact Nat.ne_of_lt (Nat.lt_of_lt_of_le (by have := World.block_lt_of_cell? _ _ hw356_0; first | rwa [qAo] at this | exact this) GW368.out)) | (show (Addr.add _ _).block ≠ _; rw [qAo]; exact Nat.ne_of_lt (Nat.lt_of_lt_of_le (by have := World.block_lt_of_cell? _ _ hw356_0; first | rwa [qAo] at this | exact this) GW368.out)) | (dsimp only; exact Nat.ne_of_lt (Nat.lt_of_lt_of_le (by have := World.block_lt_of_cell? _ _ hw356_0; first | rwa [qAo] at this | exact this) GW368.out))) _).trans (hHeld.2.2.2.2.2.2))))))))))))⟩ (fun hHeld => ?_)
                             clear hK K
                             refine pure_ (i := 11) (N := some 17) (v := ?_) (a' := ?_) (hogsheadlaw15_ValueKeys.bm 12 4095) rfl rfl (any_of HT_.out (by kernel_rfl)) (fun _ _ _ h => h) (Or.inl ⟨by rfl, ?_⟩) ?_ ?_
                             rotate_left
                             ·intro w'
                              go_simp
                              with_reducible rfl
                             rotate_left
                             ·simp only [Act.put, List.setIfInBounds_toArray, List.set_cons_zero, List.set_cons_succ, i64_w, i32_w]
                              rfl
                             refine done_ (qBm HT_.out (by kernel_rfl)) ?_
                             try go_wp2
                             have n0_ : Aside0 (Kd.N k25 25 ((((((w97.setCell ⟨gb368, 0, none⟩ (.int .i64 t357)).setCell ⟨gb368, 1, none⟩ (.bool t358)).setCell ⟨gb368, 2, none⟩ (.int .i64 t359)).setCell ⟨gb368, 3, none⟩ (.string t360)).setCell ⟨gb368, 4, none⟩ (.slice Ao102 t361.length co102)).setCell ⟨gb368, 5, none⟩ (.slice Ao104 t364.length co104)) w.heap.size (fun k_ => some k_ ≠ (.slice Ao38 t332.length co38 : Value).ownBlock ∧ some k_ ≠ (.slice Ao39 t335.length co39 : Value).ownBlock ∧ some k_ ≠ (.slice Ao102 t361.length co102 : Value).ownBlock ∧ some k_ ≠ (.slice Ao104 t364.length co104 : Value).ownBlock ∧ k_ ≠ gb338 ∧ k_ ≠ gb368) (.slice Ao34 x5_2.length co34) x5_2) := ⟨by (with_reducible repeat (first | apply Kd.N_alloc | apply Kd.N_drewN | apply Kd.N_drew)); exact Kd.N_mono (Kd.N_far (p := ⟨gb368, 5, none⟩) (Kd.N_far (p := ⟨gb368, 4, none⟩) (Kd.N_far (p := ⟨gb368, 3, none⟩) (Kd.N_far (p := ⟨gb368, 2, none⟩) (Kd.N_far (p := ⟨gb368, 1, none⟩) (Kd.N_far (p := ⟨gb368, 0, none⟩) (Kd.N_mono HO_5.out (fun k_ hk => (⟨hk, hk.2.2.2.2.2⟩ : _ ∧ k_ ≠ gb368))) (fun _ hk => hk.2) (.int .i64 t357)) (fun _ hk => hk.2) (.bool t358)) (fun _ hk => hk.2) (.int .i64 t359)) (fun _ hk => hk.2) (.string t360)) (fun _ hk => hk.2) (.slice Ao102 t361.length co102)) (fun _ hk => hk.2) (.slice Ao104 t364.length co104)) (fun _ hk => ⟨hk.1.2.2.1, ⟨hk.1.2.2.2.1, ⟨hk.1.1, ⟨hk.1.2.1, ⟨hk.1.2.2.2.2.1, hk.1.2.2.2.2.2⟩⟩⟩⟩⟩)⟩
                             have n1_ : Aside0 (Kd.N k25 25 ((((((w97.setCell ⟨gb368, 0, none⟩ (.int .i64 t357)).setCell ⟨gb368, 1, none⟩ (.bool t358)).setCell ⟨gb368, 2, none⟩ (.int .i64 t359)).setCell ⟨gb368, 3, none⟩ (.string t360)).setCell ⟨gb368, 4, none⟩ (.slice Ao102 t361.length co102)).setCell ⟨gb368, 5, none⟩ (.slice Ao104 t364.length co104)) w.heap.size (fun k_ => some k_ ≠ (.slice Ao34 x5_2.length co34 : Value).ownBlock ∧ some k_ ≠ (.slice Ao39 t335.length co39 : Value).ownBlock ∧ some k_ ≠ (.slice Ao102 t361.length co102 : Value).ownBlock ∧ some k_ ≠ (.slice Ao104 t364.length co104 : Value).ownBlock ∧ k_ ≠ gb338 ∧ k_ ≠ gb368) (.slice Ao38 t332.length co38) t332) := ⟨by (with_reducible repeat (first | apply Kd.N_alloc | apply Kd.N_drewN | apply Kd.N_drew)); exact Kd.N_mono (Kd.N_far (p := ⟨gb368, 5, none⟩) (Kd.N_far (p := ⟨gb368, 4, none⟩) (Kd.N_far (p := ⟨gb368, 3, none⟩) (Kd.N_far (p := ⟨gb368, 2, none⟩) (Kd.N_far (p := ⟨gb368, 1, none⟩) (Kd.N_far (p := ⟨gb368, 0, none⟩) (Kd.N_mono HO_339004.out (fun k_ hk => (⟨hk, hk.2.2.2.2.2⟩ : _ ∧ k_ ≠ gb368))) (fun _ hk => hk.2) (.int .i64 t357)) (fun _ hk => hk.2) (.bool t358)) (fun _ hk => hk.2) (.int .i64 t359)) (fun _ hk => hk.2) (.string t360)) (fun _ hk => hk.2) (.slice Ao102 t361.length co102)) (fun _ hk => hk.2) (.slice Ao104 t364.length co104)) (fun _ hk => ⟨hk.1.2.2.2.1, ⟨hk.1.2.2.1, ⟨hk.1.1, ⟨hk.1.2.1, ⟨hk.1.2.2.2.2.1, hk.1.2.2.2.2.2⟩⟩⟩⟩⟩)⟩
                             have n2_ : Aside0 (Kd.R Kd.string 9 ((((((w97.setCell ⟨gb368, 0, none⟩ (.int .i64 t357)).setCell ⟨gb368, 1, none⟩ (.bool t358)).setCell ⟨gb368, 2, none⟩ (.int .i64 t359)).setCell ⟨gb368, 3, none⟩ (.string t360)).setCell ⟨gb368, 4, none⟩ (.slice Ao102 t361.length co102)).setCell ⟨gb368, 5, none⟩ (.slice Ao104 t364.length co104)) w.heap.size (fun k_ => some k_ ≠ (.slice Ao104 t364.length co104 : Value).ownBlock) (.slice Ao39 t335.length co39) t335) := ⟨by (with_reducible repeat (first | apply Kd.R_alloc | apply Kd.R_drewN | apply Kd.R_drew)); exact Kd.R_mono (Kd.R_far (p := ⟨gb368, 5, none⟩) (Kd.R_far (p := ⟨gb368, 4, none⟩) (Kd.R_far (p := ⟨gb368, 3, none⟩) (Kd.R_far (p := ⟨gb368, 2, none⟩) (Kd.R_far (p := ⟨gb368, 1, none⟩) (Kd.R_far (p := ⟨gb368, 0, none⟩) (Kd.R_types HO_339005.out BK368.out (by decide)) (fun _ hk => hk.2) (.int .i64 t357)) (fun _ hk => hk.2) (.bool t358)) (fun _ hk => hk.2) (.int .i64 t359)) (fun _ hk => hk.2) (.string t360)) (fun _ hk => hk.2) (.slice Ao102 t361.length co102)) (fun _ hk => hk.2) (.slice Ao104 t364.length co104)) (fun _ hk => hk.1)⟩
                             have n3_ : Aside0 (Kd.N k25 25 ((((((w97.setCell ⟨gb368, 0, none⟩ (.int .i64 t357)).setCell ⟨gb368, 1, none⟩ (.bool t358)).setCell ⟨gb368, 2, none⟩ (.int .i64 t359)).setCell ⟨gb368, 3, none⟩ (.string t360)).setCell ⟨gb368, 4, none⟩ (.slice Ao102 t361.length co102)).setCell ⟨gb368, 5, none⟩ (.slice Ao104 t364.length co104)) w.heap.size (fun k_ => some k_ ≠ (.slice Ao34 x5_2.length co34 : Value).ownBlock ∧ some k_ ≠ (.slice Ao38 t332.length co38 : Value).ownBlock ∧ some k_ ≠ (.slice Ao39 t335.length co39 : Value).ownBlock ∧ some k_ ≠ (.slice Ao104 t364.length co104 : Value).ownBlock ∧ k_ ≠ gb338 ∧ k_ ≠ gb368) (.slice Ao102 t361.length co102) t361) := ⟨by (with_reducible repeat (first | apply Kd.N_alloc | apply Kd.N_drewN | apply Kd.N_drew)); exact Kd.N_mono (Kd.N_far (p := ⟨gb368, 5, none⟩) (Kd.N_far (p := ⟨gb368, 4, none⟩) (Kd.N_far (p := ⟨gb368, 3, none⟩) (Kd.N_far (p := ⟨gb368, 2, none⟩) (Kd.N_far (p := ⟨gb368, 1, none⟩) (Kd.N_far (p := ⟨gb368, 0, none⟩) (Kd.N_mono HO363.out (fun k_ hk => (⟨hk, hk.2.2.2.2.2⟩ : _ ∧ k_ ≠ gb368))) (fun _ hk => hk.2) (.int .i64 t357)) (fun _ hk => hk.2) (.bool t358)) (fun _ hk => hk.2) (.int .i64 t359)) (fun _ hk => hk.2) (.string t360)) (fun _ hk => hk.2) (.slice Ao102 t361.length co102)) (fun _ hk => hk.2) (.slice Ao104 t364.length co104)) (fun _ hk => ⟨hk.1.2.2.2.1, ⟨hk.1.2.1, ⟨hk.1.2.2.1, ⟨hk.1.1, ⟨hk.1.2.2.2.2.1, hk.1.2.2.2.2.2⟩⟩⟩⟩⟩)⟩
                             have n4_ : Aside0 (Kd.R Kd.string 9 ((((((w97.setCell ⟨gb368, 0, none⟩ (.int .i64 t357)).setCell ⟨gb368, 1, none⟩ (.bool t358)).setCell ⟨gb368, 2, none⟩ (.int .i64 t359)).setCell ⟨gb368, 3, none⟩ (.string t360)).setCell ⟨gb368, 4, none⟩ (.slice Ao102 t361.length co102)).setCell ⟨gb368, 5, none⟩ (.slice Ao104 t364.length co104)) w.heap.size (fun k_ => some k_ ≠ (.slice Ao39 t335.length co39 : Value).ownBlock) (.slice Ao104 t364.length co104) t364) := ⟨by (with_reducible repeat (first | apply Kd.R_alloc | apply Kd.R_drewN | apply Kd.R_drew)); exact Kd.R_mono (Kd.R_far (p := ⟨gb368, 5, none⟩) (Kd.R_far (p := ⟨gb368, 4, none⟩) (Kd.R_far (p := ⟨gb368, 3, none⟩) (Kd.R_far (p := ⟨gb368, 2, none⟩) (Kd.R_far (p := ⟨gb368, 1, none⟩) (Kd.R_far (p := ⟨gb368, 0, none⟩) (Kd.R_types HO366.out BK368.out (by decide)) (fun _ hk => hk.2) (.int .i64 t357)) (fun _ hk => hk.2) (.bool t358)) (fun _ hk => hk.2) (.int .i64 t359)) (fun _ hk => hk.2) (.string t360)) (fun _ hk => hk.2) (.slice Ao102 t361.length co102)) (fun _ hk => hk.2) (.slice Ao104 t364.length co104)) (fun _ hk => hk.1)⟩
                             have n5_ : Aside0 (((((((w97.setCell ⟨gb368, 0, none⟩ (.int .i64 t357)).setCell ⟨gb368, 1, none⟩ (.bool t358)).setCell ⟨gb368, 2, none⟩ (.int .i64 t359)).setCell ⟨gb368, 3, none⟩ (.string t360)).setCell ⟨gb368, 4, none⟩ (.slice Ao102 t361.length co102)).setCell ⟨gb368, 5, none⟩ (.slice Ao104 t364.length co104)).heap[gb338]? = some (.cells #[.int .i64 t328, .bool t329, .int .i64 t330, .string t331, .slice Ao38 t332.length co38, .slice Ao39 t335.length co39] 25 (0, 0))) := ⟨by (with_reducible repeat (first | refine qAg ?_ _ | refine qAh ?_ | refine blk_alloc ?_ _)); refine qA2 ?_ NB338_368.out _; (with_reducible repeat (first | refine qAg ?_ _ | refine qAh ?_ | refine blk_alloc ?_ _)); refine qA2 ?_ NB338_368.out _; (with_reducible repeat (first | refine qAg ?_ _ | refine qAh ?_ | refine blk_alloc ?_ _)); refine qA2 ?_ NB338_368.out _; (with_reducible repeat (first | refine qAg ?_ _ | refine qAh ?_ | refine blk_alloc ?_ _)); refine qA2 ?_ NB338_368.out _; (with_reducible repeat (first | refine qAg ?_ _ | refine qAh ?_ | refine blk_alloc ?_ _)); refine qA2 ?_ NB338_368.out _; (with_reducible repeat (first | refine qAg ?_ _ | refine qAh ?_ | refine blk_alloc ?_ _)); refine qA2 ?_ NB338_368.out _; (with_reducible repeat (first | refine qAg ?_ _ | refine qAh ?_ | refine blk_alloc ?_ _)); exact BK338.out⟩
                             have n6_ : Aside0 (((((((w97.setCell ⟨gb368, 0, none⟩ (.int .i64 t357)).setCell ⟨gb368, 1, none⟩ (.bool t358)).setCell ⟨gb368, 2, none⟩ (.int .i64 t359)).setCell ⟨gb368, 3, none⟩ (.string t360)).setCell ⟨gb368, 4, none⟩ (.slice Ao102 t361.length co102)).setCell ⟨gb368, 5, none⟩ (.slice Ao104 t364.length co104)).heap[gb368]? = some (.cells #[.int .i64 t357, .bool t358, .int .i64 t359, .string t360, .slice Ao102 t361.length co102, .slice Ao104 t364.length co104] 25 (0, 0))) := ⟨by (with_reducible repeat (first | refine qAg ?_ _ | refine qAh ?_ | refine blk_alloc ?_ _)); refine qAv (cs := #[.int .i64 t357, .bool t358, .int .i64 t359, .string t360, .slice Ao102 t361.length co102, .slice none 0 0]) ?_ 5 _ rfl; (with_reducible repeat (first | refine qAg ?_ _ | refine qAh ?_ | refine blk_alloc ?_ _)); refine qAv (cs := #[.int .i64 t357, .bool t358, .int .i64 t359, .string t360, .slice none 0 0, .slice none 0 0]) ?_ 4 _ rfl; (with_reducible repeat (first | refine qAg ?_ _ | refine qAh ?_ | refine blk_alloc ?_ _)); refine qAv (cs := #[.int .i64 t357, .bool t358, .int .i64 t359, .string (⟨#[]⟩ : ByteArray), .slice none 0 0, .slice none 0 0]) ?_ 3 _ rfl; (with_reducible repeat (first | refine qAg ?_ _ | refine qAh ?_ | refine blk_alloc ?_ _)); refine qAv (cs := #[.int .i64 t357, .bool t358, .int .i64 0, .string (⟨#[]⟩ : ByteArray), .slice none 0 0, .slice none 0 0]) ?_ 2 _ rfl; (with_reducible repeat (first | refine qAg ?_ _ | refine qAh ?_ | refine blk_alloc ?_ _)); refine qAv (cs := #[.int .i64 t357, .bool false, .int .i64 0, .string (⟨#[]⟩ : ByteArray), .slice none 0 0, .slice none 0 0]) ?_ 1 _ rfl; (with_reducible repeat (first | refine qAg ?_ _ | refine qAh ?_ | refine blk_alloc ?_ _)); refine qAv (cs := #[.int .i64 0, .bool false, .int .i64 0, .string (⟨#[]⟩ : ByteArray), .slice none 0 0, .slice none 0 0]) ?_ 0 _ rfl; (with_reducible repeat (first | refine qAg ?_ _ | refine qAh ?_ | refine blk_alloc ?_ _)); exact BK368.out⟩
                             have n7_ : Aside0 (Below w.heap.size w ((((((w97.setCell ⟨gb368, 0, none⟩ (.int .i64 t357)).setCell ⟨gb368, 1, none⟩ (.bool t358)).setCell ⟨gb368, 2, none⟩ (.int .i64 t359)).setCell ⟨gb368, 3, none⟩ (.string t360)).setCell ⟨gb368, 4, none⟩ (.slice Ao102 t361.length co102)).setCell ⟨gb368, 5, none⟩ (.slice Ao104 t364.length co104))) := ⟨by repeat (first | (with_reducible first | exact HB.out | apply qAd | apply qAc | apply qAe | refine qAf ?_ GE338.out | refine qAf ?_ GE368.out) | exact HB.out)⟩
                             (try clear HO_5)
                             (try clear HO_339004)
                             (try clear HO_339005)
                             (try clear HO363)
                             (try clear HO366)
                             (try clear BK338)
                             (try clear BK368)
                             (try clear HB)
                             generalize ((((((w97.setCell ⟨gb368, 0, none⟩ (.int .i64 t357)).setCell ⟨gb368, 1, none⟩ (.bool t358)).setCell ⟨gb368, 2, none⟩ (.int .i64 t359)).setCell ⟨gb368, 3, none⟩ (.string t360)).setCell ⟨gb368, 4, none⟩ (.slice Ao102 t361.length co102)).setCell ⟨gb368, 5, none⟩ (.slice Ao104 t364.length co104)) = w106 at n0_ n1_ n2_ n3_ n4_ n5_ n6_ n7_ ⊢
                             have HO_5 := n0_
                             have HO_339004 := n1_
                             have HO_339005 := n2_
                             have HO363 := n3_
                             have HO366 := n4_
                             have BK338 := n5_
                             have BK368 := n6_
                             have HB := n7_
                             clear n0_ n1_ n2_ n3_ n4_ n5_ n6_ n7_
                             have n0_ := Aside0.mk (Kd.N_drew HO_5.out)
                             have n1_ := Aside0.mk (Kd.N_drew HO_339004.out)
                             have n2_ := Aside0.mk (Kd.R_drew HO_339005.out)
                             have n3_ := Aside0.mk (Kd.N_drew HO363.out)
                             have n4_ := Aside0.mk (Kd.R_drew HO366.out)
                             have n5_ := Aside0.mk (qAh BK338.out)
                             have n6_ := Aside0.mk (qAh BK368.out)
                             have n7_ := Aside0.mk (qAe HB.out)
                             clear HO_5
                             clear HO_339004
                             clear HO_339005
                             clear HO363
                             clear HO366
                             clear BK338
                             clear BK368
                             clear HB
                             have HO_5 := n0_
                             have HO_339004 := n1_
                             have HO_339005 := n2_
                             have HO363 := n3_
                             have HO366 := n4_
                             have BK338 := n5_
                             have BK368 := n6_
                             have HB := n7_
                             clear n0_ n1_ n2_ n3_ n4_ n5_ n6_ n7_
                             have p369 : 0 ≤ (x15_7 : Int) := of_decide_eq_true (by first | (with_reducible assumption) | assumption)
                             have q369 : x15_7 < (x5_2.length : Int) := of_decide_eq_true (by first | (with_reducible assumption) | assumption)
                             obtain ⟨ad369, A369_4, c369_4, A369_5, c369_5, e369, hx369_0, hx369_1, hx369_2, hx369_3, hx369_4, hx369_5, hl369_4, hi369_4, hl369_5, hi369_5⟩ := at_T25 (Kd.N_reads' HO_5.out).2.2 x15_7 p369 q369
                             cases e369
                             obtain ⟨ce369, hce369, hMe369, hcc369⟩ := Kd.N_get HO_5.out z25 x15_7 p369 (by first | exact q369 | exact of_decide_eq_true (by first | (with_reducible assumption) | assumption) | (have e_ := (Kd.N_reads' HO_5.out).1; omega))
                             obtain ⟨ua369_4, uc369_4, ua369_5, uc369_5, rfl, ul369_4, ge369_4, ul369_5, ge369_5⟩ := qEr hMe369
                             have hv369_4 := hcc369 4 _ rfl
                             rw [qBj _ _ 4 (by omega)] at hv369_4
                             replace hv369_4 := Option.some.inj (hv369_4.symm.trans hx369_4)
                             injection hv369_4 with hva_ hvn_ hvc_
                             rw [hva_] at ge369_4
                             rw [hvc_] at ul369_4
                             have HL369_4 := Aside0.mk (show Kd.V k25 25 _ w.heap.size _ _ ((rd_T25 x5_2 x15_7).f4) from Kd.V_mk ul369_4 ge369_4)
                             clear hva_ hvn_ hvc_ ge369_4 ul369_4
                             have hv369_5 := hcc369 5 _ rfl
                             rw [qBj _ _ 5 (by omega)] at hv369_5
                             replace hv369_5 := Option.some.inj (hv369_5.symm.trans hx369_5)
                             injection hv369_5 with hva_ hvn_ hvc_
                             rw [hva_] at ge369_5
                             rw [hvc_] at ul369_5
                             have HL369_5 := Aside0.mk (show Kd.V Kd.string 9 _ w.heap.size _ _ ((rd_T25 x5_2 x15_7).f5) from Kd.V_mk ul369_5 ge369_5)
                             clear hva_ hvn_ hvc_ ge369_5 ul369_5
                             clear hcc369 hce369
                             have HR369_4 := Aside0.mk hi369_4
                             have HC369_4 := Aside0.mk hl369_4
                             clear hi369_4 hl369_4
                             have HR369_5 := Aside0.mk hi369_5
                             have HC369_5 := Aside0.mk hl369_5
                             clear hi369_5 hl369_5
                             replace p369 := eq_true p369
                             replace q369 := eq_true q369
                             refine start_ (n := 11) (S := fun w' => w'.cell? ⟨gb368, 0, none⟩ = some (.int .i64 t357) ∧ w'.cell? ⟨gb368, 1, none⟩ = some (.bool t358) ∧ w'.cell? ⟨gb368, 2, none⟩ = some (.int .i64 t359) ∧ w'.cell? ⟨gb368, 3, none⟩ = some (.string t360) ∧ w'.cell? ⟨gb368, 4, none⟩ = some (.slice Ao102 t361.length co102) ∧ w'.cell? ⟨gb368, 5, none⟩ = some (.slice Ao104 t364.length co104) ∧ w'.cell? (ad369.add ((x15_7).toNat * 6)) = some (.int .i64 ((rd_T25 x5_2 x15_7).f0)) ∧ w'.cell? ⟨(ad369.add ((x15_7).toNat * 6)).block, (ad369.add ((x15_7).toNat * 6)).off + 1, none⟩ = some (.bool ((rd_T25 x5_2 x15_7).f1)) ∧ w'.cell? ⟨(ad369.add ((x15_7).toNat * 6)).block, (ad369.add ((x15_7).toNat * 6)).off + 2, none⟩ = some (.int .i64 ((rd_T25 x5_2 x15_7).f2)) ∧ w'.cell? ⟨(ad369.add ((x15_7).toNat * 6)).block, (ad369.add ((x15_7).toNat * 6)).off + 3, none⟩ = some (.string ((rd_T25 x5_2 x15_7).f3)) ∧ w'.cell? ⟨(ad369.add ((x15_7).toNat * 6)).block, (ad369.add ((x15_7).toNat * 6)).off + 4, none⟩ = some (.slice A369_4 ((rd_T25 x5_2 x15_7).f4).length c369_4) ∧ w'.cell? ⟨(ad369.add ((x15_7).toNat * 6)).block, (ad369.add ((x15_7).toNat * 6)).off + 5, none⟩ = some (.slice A369_5 ((rd_T25 x5_2 x15_7).f5).length c369_5)) (ds := []) #[false, false, false, false, false, false, false, false, false, false, false] (by kernel_rfl) rfl rfl ⟨(qAa BK368.out 0).trans rfl, (qAa BK368.out 1).trans rfl, (qAa BK368.out 2).trans rfl, (qAa BK368.out 3).trans rfl, (qAa BK368.out 4).trans rfl, (qAa BK368.out 5).trans rfl, hx369_0, hx369_1, hx369_2, hx369_3, hx369_4, hx369_5⟩ (fun hHeld => ?_); refine qA8 hogsheadlaw15_ValueKeys.tab34 hogsheadlaw15_ValueKeys.bits34 (fun HT_ HW_ => ?_)
                             generalize w106.drew = w107 at HO_5 HO_339004 HO_339005 HO363 HO366 BK338 BK368 HB HL369_4 HL369_5 HR369_4 HR369_5 hx369_0 hx369_1 hx369_2 hx369_3 hx369_4 hx369_5 hHeld ⊢
                             refine pure_ (i := 0) (N := some 165) (v := ?_) (a' := ?_) (hogsheadlaw15_ValueKeys.bm 11 1) rfl rfl (any_of HT_.out (by kernel_rfl)) (fun _ _ _ h => h) (Or.inl ⟨by rfl, ?_⟩) ?_ ?_
                             rotate_left
                             ·intro w'
                              go_simp
                              with_reducible rfl
                             rotate_left
                             ·simp only [Act.put, List.setIfInBounds_toArray, List.set_cons_zero, List.set_cons_succ, i64_w, i32_w]
                              rfl
                             refine pure_ (i := 1) (N := some 166) (v := ?_) (a' := ?_) (hogsheadlaw15_ValueKeys.bm 11 3) rfl rfl (any_of HT_.out (by kernel_rfl)) (fun _ _ _ h => h) (Or.inl ⟨by rfl, ?_⟩) ?_ ?_
                             rotate_left
                             ·intro w'
                              go_simp
                              with_reducible rfl
                             rotate_left
                             ·simp only [Act.put, List.setIfInBounds_toArray, List.set_cons_zero, List.set_cons_succ, i64_w, i32_w]
                              rfl
                             refine pure_ (i := 2) (N := some 167) (v := ?_) (a' := ?_) (hogsheadlaw15_ValueKeys.bm 11 7) rfl rfl (any_of HT_.out (by kernel_rfl)) (fun _ _ _ h => h) (Or.inl ⟨by rfl, ?_⟩) ?_ ?_
                             rotate_left
                             ·intro w'
                              go_simp
                              with_reducible rfl
                             rotate_left
                             ·simp only [Act.put, List.setIfInBounds_toArray, List.set_cons_zero, List.set_cons_succ, i64_w, i32_w]
                              rfl
                             refine pure_ (i := 4) (N := some 169) (v := ?_) (a' := ?_) (hogsheadlaw15_ValueKeys.bm 11 23) rfl rfl (any_of HT_.out (by kernel_rfl)) (fun _ _ _ h => h) (Or.inl ⟨by rfl, ?_⟩) ?_ ?_
                             rotate_left
                             ·intro w'
                              go_simp
                              with_reducible rfl
                             rotate_left
                             ·simp only [Act.put, List.setIfInBounds_toArray, List.set_cons_zero, List.set_cons_succ, i64_w, i32_w]
                              rfl
                             refine pure_ (i := 5) (N := some 170) (v := ?_) (a' := ?_) (hogsheadlaw15_ValueKeys.bm 11 55) rfl rfl (any_of HT_.out (by kernel_rfl)) (fun _ _ _ h => h) (Or.inl ⟨by rfl, ?_⟩) ?_ ?_
                             rotate_left
                             ·intro w'
                              go_simp
                              with_reducible rfl
                             rotate_left
                             ·simp only [Act.put, List.setIfInBounds_toArray, List.set_cons_zero, List.set_cons_succ, i64_w, i32_w]
                              rfl
                             refine pure_ (i := 6) (N := some 171) (v := ?_) (a' := ?_) (hogsheadlaw15_ValueKeys.bm 11 119) rfl rfl (any_of HT_.out (by kernel_rfl)) (fun _ _ _ h => h) (Or.inl ⟨by rfl, ?_⟩) ?_ ?_
                             rotate_left
                             ·intro w'
                              go_simp
                              with_reducible rfl
                             rotate_left
                             ·simp only [Act.put, List.setIfInBounds_toArray, List.set_cons_zero, List.set_cons_succ, i64_w, i32_w]
                              rfl
                             refine take_ (i := 3) (N := some 168) (v := ?_) (a' := ?_) (hogsheadlaw15_ValueKeys.bm 11 127) rfl rfl (qAt HT_.out HW_.out (by kernel_rfl)) (fun _ _ _ h => h) (Or.inl ⟨by rfl, ?_⟩) hHeld ?_ ?_
                             rotate_left
                             ·rintro w' ⟨s0, s1, s2, s3, s4, s5, s6, s7, s8, s9, s10, s11⟩
                              go_simp
                              with_reducible rfl
                             rotate_left
                             ·simp only [Act.put, List.setIfInBounds_toArray, List.set_cons_zero, List.set_cons_succ, i64_w, i32_w]
                              rfl
                             refine take_ (i := 7) (N := some 172) (v := ?_) (a' := ?_) (hogsheadlaw15_ValueKeys.bm 11 255) rfl rfl (qAt HT_.out HW_.out (by kernel_rfl)) (fun _ _ _ h => h) (Or.inl ⟨by rfl, ?_⟩) hHeld ?_ ?_
                             rotate_left
                             ·rintro w' ⟨s0, s1, s2, s3, s4, s5, s6, s7, s8, s9, s10, s11⟩
                              go_simp
                              with_reducible rfl
                             rotate_left
                             ·simp only [Act.put, List.setIfInBounds_toArray, List.set_cons_zero, List.set_cons_succ, i64_w, i32_w]
                              rfl
                             refine one_ (i := 8) (N := some 173) (hogsheadlaw15_ValueKeys.bm 11 511) rfl rfl (one_of HT_.out (by kernel_rfl)) (by decide) (fun K hK => ?_)
                             refine goes_ Tryd.func25 (by kernel_rfl) rfl #[.agg #[.int .i64 t357, .bool t358, .int .i64 t359, .string t360, .slice Ao102 t361.length co102, .slice Ao104 t364.length co104], .agg #[.int .i64 ((rd_T25 x5_2 x15_7).f0), .bool ((rd_T25 x5_2 x15_7).f1), .int .i64 ((rd_T25 x5_2 x15_7).f2), .string ((rd_T25 x5_2 x15_7).f3), .slice A369_4 ((rd_T25 x5_2 x15_7).f4).length c369_4, .slice A369_5 ((rd_T25 x5_2 x15_7).f5).length c369_5], .int .i64 2] (by rfl) rfl rfl (by (try simp only [List.map_toArray, List.map_cons, List.map_nil]); first | done | rfl | (simp only [List.length_drop, List.length_take]; rfl)) ?_
                             with_reducible refine (hogsheadlaw0_SameValue.calls k7 t357 t358 t359 t360 _ _ t361 _ _ t364 ((rd_T25 x5_2 x15_7).f0) ((rd_T25 x5_2 x15_7).f1) ((rd_T25 x5_2 x15_7).f2) ((rd_T25 x5_2 x15_7).f3) _ _ ((rd_T25 x5_2 x15_7).f4) _ _ ((rd_T25 x5_2 x15_7).f5) 2 true _ ?side1 ?side2 ?side3 ?side4 ?side5 ?side6 ?side7 ?side8 A91.out).mono ?_
                             (case side1 => repeat (first | exact (Kd.N_reads' HO363.out).2.2 | (with_reducible refine Kd.C_alloc ?_ _) | (with_reducible refine Kd.C_drewN ?_ _) | (with_reducible refine Kd.C_drew ?_)))
                             (case side2 => exact (Kd.N_reads' HO363.out).2.1)
                             (case side3 => repeat (first | exact (Kd.R_reads' HO366.out).2.2 | (with_reducible refine Kd.C_alloc ?_ _) | (with_reducible refine Kd.C_drewN ?_ _) | (with_reducible refine Kd.C_drew ?_)))
                             (case side4 => exact (Kd.R_reads' HO366.out).2.1)
                             (case side5 => repeat (first | exact (by repeat (first | (with_reducible exact HR369_4.out) | (with_reducible refine Kd.C_alloc ?_ _) | (with_reducible refine Kd.C_drewN ?_ _) | (with_reducible refine Kd.C_drew ?_) | exact HR369_4.out)) | (with_reducible refine Kd.C_alloc ?_ _) | (with_reducible refine Kd.C_drewN ?_ _) | (with_reducible refine Kd.C_drew ?_)))
                             (case side6 => exact HC369_4.out)
                             (case side7 => repeat (first | exact (by repeat (first | (with_reducible exact HR369_5.out) | (with_reducible refine Kd.C_alloc ?_ _) | (with_reducible refine Kd.C_drewN ?_ _) | (with_reducible refine Kd.C_drew ?_) | exact HR369_5.out)) | (with_reducible refine Kd.C_alloc ?_ _) | (with_reducible refine Kd.C_drewN ?_ _) | (with_reducible refine Kd.C_drew ?_)))
                             (case side8 => exact HC369_5.out)
                             rintro e w108 ⟨rfl, hb⟩
                             have HS6_ := (hb.cell (World.block_lt_of_cell? _ _ (hHeld.2.2.2.2.2.2.1))).trans (hHeld.2.2.2.2.2.2.1)
                             have HS7_ := (hb.cell (World.block_lt_of_cell? _ _ (hHeld.2.2.2.2.2.2.2.1))).trans (hHeld.2.2.2.2.2.2.2.1)
                             have HS8_ := (hb.cell (World.block_lt_of_cell? _ _ (hHeld.2.2.2.2.2.2.2.2.1))).trans (hHeld.2.2.2.2.2.2.2.2.1)
                             have HS9_ := (hb.cell (World.block_lt_of_cell? _ _ (hHeld.2.2.2.2.2.2.2.2.2.1))).trans (hHeld.2.2.2.2.2.2.2.2.2.1)
                             have HS10_ := (hb.cell (World.block_lt_of_cell? _ _ (hHeld.2.2.2.2.2.2.2.2.2.2.1))).trans (hHeld.2.2.2.2.2.2.2.2.2.2.1)
                             have HS11_ := (hb.cell (World.block_lt_of_cell? _ _ (hHeld.2.2.2.2.2.2.2.2.2.2.2))).trans (hHeld.2.2.2.2.2.2.2.2.2.2.2)
                             refine ⟨_, rfl, ?_⟩
                             have n0_ := Aside0.mk (Kd.N_below (by (with_reducible repeat (first | apply Kd.N_alloc | apply Kd.N_drewN | apply Kd.N_drew)); exact HO_5.out) hb)
                             have n1_ := Aside0.mk (Kd.N_below (by (with_reducible repeat (first | apply Kd.N_alloc | apply Kd.N_drewN | apply Kd.N_drew)); exact HO_339004.out) hb)
                             have n2_ := Aside0.mk (Kd.R_below (by (with_reducible repeat (first | apply Kd.R_alloc | apply Kd.R_drewN | apply Kd.R_drew)); exact HO_339005.out) hb)
                             have n3_ := Aside0.mk (Kd.N_below (by (with_reducible repeat (first | apply Kd.N_alloc | apply Kd.N_drewN | apply Kd.N_drew)); exact HO363.out) hb)
                             have n4_ := Aside0.mk (Kd.R_below (by (with_reducible repeat (first | apply Kd.R_alloc | apply Kd.R_drewN | apply Kd.R_drew)); exact HO366.out) hb)
                             have n5_ := Aside0.mk (Kd.V_below (by (with_reducible repeat (first | apply Kd.V_alloc | apply Kd.V_drewN | apply Kd.V_drew)); exact HL369_4.out) hb)
                             have n6_ := Aside0.mk (Kd.V_below (by (with_reducible repeat (first | apply Kd.V_alloc | apply Kd.V_drewN | apply Kd.V_drew)); exact HL369_5.out) hb)
                             have n7_ := Aside0.mk (qAk (g := gb338) (o := .cells #[.int .i64 t328, .bool t329, .int .i64 t330, .string t331, .slice Ao38 t332.length co38, .slice Ao39 t335.length co39] 25 (0, 0)) (by (with_reducible repeat (first | refine qAg ?_ _ | refine qAh ?_ | refine blk_alloc ?_ _)); exact BK338.out) hb)
                             have n8_ := Aside0.mk (qAk (g := gb368) (o := .cells #[.int .i64 t357, .bool t358, .int .i64 t359, .string t360, .slice Ao102 t361.length co102, .slice Ao104 t364.length co104] 25 (0, 0)) (by (with_reducible repeat (first | refine qAg ?_ _ | refine qAh ?_ | refine blk_alloc ?_ _)); exact BK368.out) hb)
                             have n9_ := Aside0.mk (Kd.C_below (by repeat (first | (with_reducible exact HR369_4.out) | (with_reducible refine Kd.C_alloc ?_ _) | (with_reducible refine Kd.C_drewN ?_ _) | (with_reducible refine Kd.C_drew ?_) | exact HR369_4.out)) hb)
                             have n10_ := Aside0.mk (Kd.C_below (by repeat (first | (with_reducible exact HR369_5.out) | (with_reducible refine Kd.C_alloc ?_ _) | (with_reducible refine Kd.C_drewN ?_ _) | (with_reducible refine Kd.C_drew ?_) | exact HR369_5.out)) hb)
                             have n11_ := Aside0.mk (qAi (by repeat (first | (with_reducible first | exact HB.out | apply qAd | apply qAc | apply qAe | refine qAf ?_ GE338.out | refine qAf ?_ GE368.out) | exact HB.out)) hb)
                             clear HO_5
                             clear HO_339004
                             clear HO_339005
                             clear HO363
                             clear HO366
                             clear HL369_4
                             clear HL369_5
                             clear BK338
                             clear BK368
                             clear HR369_4
                             clear HR369_5
                             clear HB
                             have HO_5 := n0_
                             have HO_339004 := n1_
                             have HO_339005 := n2_
                             have HO363 := n3_
                             have HO366 := n4_
                             have HL369_4 := n5_
                             have HL369_5 := n6_
                             have BK338 := n7_
                             have BK368 := n8_
                             have HR369_4 := n9_
                             have HR369_5 := n10_
                             have HB := n11_
                             clear n0_ n1_ n2_ n3_ n4_ n5_ n6_ n7_ n8_ n9_ n10_ n11_
                             (try clear hb)
                             (try clear hb2)
                             (try clear hk)
                             (try clear hi)
                             refine hK.out _ _ ⟨(qAa BK368.out 0).trans rfl, (qAa BK368.out 1).trans rfl, (qAa BK368.out 2).trans rfl, (qAa BK368.out 3).trans rfl, (qAa BK368.out 4).trans rfl, (qAa BK368.out 5).trans rfl, HS6_, HS7_, HS8_, HS9_, HS10_, HS11_⟩ (fun hHeld => ?_)
                             clear hK K
                             refine norm_ (a' := ?_) ?_ ?_
                             rotate_left
                             ·show Act.put _ (some 173) _ = _
                              simp only [Act.put, List.setIfInBounds_toArray, List.set_cons_zero, List.set_cons_succ, i64_w, i32_w]
                              rfl
                             refine pure_ (i := 9) (N := some 174) (v := ?_) (a' := ?_) (hogsheadlaw15_ValueKeys.bm 11 1023) rfl rfl (any_of HT_.out (by kernel_rfl)) (fun _ _ _ h => h) (Or.inl ⟨by rfl, ?_⟩) ?_ ?_
                             rotate_left
                             ·intro w'
                              go_simp
                              with_reducible rfl
                             rotate_left
                             ·simp only [Act.put, List.setIfInBounds_toArray, List.set_cons_zero, List.set_cons_succ, i64_w, i32_w]
                              rfl
                             refine pure_ (i := 10) (N := some 175) (v := ?_) (a' := ?_) (hogsheadlaw15_ValueKeys.bm 11 2047) rfl rfl (any_of HT_.out (by kernel_rfl)) (fun _ _ _ h => h) (Or.inl ⟨by rfl, ?_⟩) ?_ ?_
                             rotate_left
                             ·intro w'
                              go_simp
                              with_reducible rfl
                             rotate_left
                             ·simp only [Act.put, List.setIfInBounds_toArray, List.set_cons_zero, List.set_cons_succ, i64_w, i32_w]
                              rfl
                             refine done_ (qBm HT_.out (by kernel_rfl)) ?_
                             try go_wp2
                             go_roundg k7
                             case measure => have := HJ2.out; have := HK2.out; have := HK3.out; have := HJ32.out; have := HK5.out; have := HK6.out; have := HK7.out; omega
                             case rel => exact ⟨(wrap64 (x14_6 + 1)), (by first | rfl | (simp; done) | (simp [*]; done) | exact congrArg Value.bool (nil_ne _) | exact congrArg Value.bool (nil_eq _) | exact congrArg Value.bool (nil_ne' _)), H', ⟨by have := HJ2.out; have := HK2.out; have := HK3.out; have := HJ32.out; have := HK5.out; have := HK6.out; have := HK7.out; omega⟩, ⟨by (with_reducible repeat (first | apply Kd.N_alloc | apply Kd.N_drewN | apply Kd.N_drew)); exact Kd.N_mono HO_5.out (fun _ hk => ⟨hk.1, ⟨hk.2.1, hk.2.2.2.2.1⟩⟩)⟩, ⟨by (with_reducible repeat (first | apply Kd.N_alloc | apply Kd.N_drewN | apply Kd.N_drew)); exact Kd.N_mono HO_339004.out (fun _ hk => ⟨hk.1, ⟨hk.2.1, hk.2.2.2.2.1⟩⟩)⟩, ⟨by (with_reducible repeat (first | apply Kd.R_alloc | apply Kd.R_drewN | apply Kd.R_drew)); exact Kd.R_mono HO_339005.out (fun _ hk => trivial)⟩, ⟨by (with_reducible repeat (first | refine qAg ?_ _ | refine qAh ?_ | refine blk_alloc ?_ _)); exact BK338.out⟩, ⟨by repeat (first | (with_reducible first | exact HB.out | apply qAd | apply qAc | apply qAe | refine qAf ?_ GE338.out | refine qAf ?_ GE368.out) | exact HB.out)⟩⟩
                            ·replace c92 := Bool.eq_false_iff.mpr c92
                             subst c92
                             have H1 : (some false) = some r := by rw [if_neg (show ¬ (false = true) by decide)] at H; exact H
                             clear H
                             have H := H1
                             clear H1
                             exact absurd (H.trans (congrArg some hr_.out)) (by simp)
                           ·rw [if_neg c90] at H
                            exact absurd H (by simp)
                          ·replace c89 := Bool.eq_false_iff.mpr c89
                           subst c89
                           have H1 : (some false) = some r := by rw [if_neg (show ¬ (false = true) by decide)] at H; exact H
                           clear H
                           have H := H1
                           clear H1
                           exact absurd (H.trans (congrArg some hr_.out)) (by simp)
                         ·rw [if_neg c87] at H
                          have c87b0 : ((rdOf ByteArray.empty l0 x15_7).toList == (rdOf ByteArray.empty l0 x14_6).toList) = false := beq_eq_false_iff_ne.mpr c87
                          have c87b1 : ((rdOf ByteArray.empty l0 x15_7).toList != (rdOf ByteArray.empty l0 x14_6).toList) = true := bne_iff_ne.mpr c87
                          have H' := Aside0.mk H
                          clear H
                          try go_wp2
                          have n0_ := Aside0.mk (Kd.N_drew HO_5.out)
                          have n1_ := Aside0.mk (Kd.N_drew HO_339004.out)
                          have n2_ := Aside0.mk (Kd.R_drew HO_339005.out)
                          have n3_ := Aside0.mk (qAh BK338.out)
                          have n4_ := Aside0.mk (qAe HB.out)
                          clear HO_5
                          clear HO_339004
                          clear HO_339005
                          clear BK338
                          clear HB
                          have HO_5 := n0_
                          have HO_339004 := n1_
                          have HO_339005 := n2_
                          have BK338 := n3_
                          have HB := n4_
                          clear n0_ n1_ n2_ n3_ n4_
                          have p354 : 0 ≤ (x15_7 : Int) := of_decide_eq_true (by first | (with_reducible assumption) | assumption)
                          have q354 : x15_7 < (l0.length : Int) := of_decide_eq_true (by first | (with_reducible assumption) | assumption)
                          obtain ⟨ad354, e354, hx354_0⟩ := Kd.at_string HR0.out x15_7 p354 q354
                          have hw354_0 := hx354_0
                          cases e354
                          replace hx354_0 := (HB.out.cell (World.block_lt_of_cell? w _ hx354_0)).trans hx354_0
                          replace p354 := eq_true p354
                          replace q354 := eq_true q354
                          have p355 : 0 ≤ (x14_6 : Int) := of_decide_eq_true (by first | (with_reducible assumption) | assumption)
                          have q355 : x14_6 < (l0.length : Int) := of_decide_eq_true (by first | (with_reducible assumption) | assumption)
                          obtain ⟨ad355, e355, hx355_0⟩ := Kd.at_string HR0.out x14_6 p355 q355
                          have hw355_0 := hx355_0
                          obtain rfl : ad354 = ad355 := (by injection e355)
                          replace hx355_0 := (HB.out.cell (World.block_lt_of_cell? w _ hx355_0)).trans hx355_0
                          replace p355 := eq_true p355
                          replace q355 := eq_true q355
                          refine start_ (n := 9) (S := fun w' => w'.cell? (ad354.add (x15_7).toNat) = some (.string (rdOf ByteArray.empty l0 x15_7)) ∧ w'.cell? (ad354.add (x14_6).toNat) = some (.string (rdOf ByteArray.empty l0 x14_6))) (ds := []) #[false, false, false, false, false, false, false, false, false] (by kernel_rfl) rfl rfl ⟨((HB.out.cell (World.block_lt_of_cell? w _ hw354_0)).trans hw354_0), ((HB.out.cell (World.block_lt_of_cell? w _ hw355_0)).trans hw355_0)⟩ (fun hHeld => ?_); refine qA8 hogsheadlaw15_ValueKeys.tab31 hogsheadlaw15_ValueKeys.bits31 (fun HT_ HW_ => ?_)
                          generalize wr.drew = w109 at HO_5 HO_339004 HO_339005 BK338 HB hx354_0 hx355_0 hHeld ⊢
                          refine pure_ (i := 0) (N := some 145) (v := ?_) (a' := ?_) (hogsheadlaw15_ValueKeys.bm 9 1) rfl rfl (any_of HT_.out (by kernel_rfl)) (fun _ _ _ h => h) (Or.inl ⟨by rfl, ?_⟩) ?_ ?_
                          rotate_left
                          ·intro w'
                           go_simp
                           with_reducible rfl
                          rotate_left
                          ·simp only [Act.put, List.setIfInBounds_toArray, List.set_cons_zero, List.set_cons_succ, i64_w, i32_w]
                           rfl
                          refine pure_ (i := 1) (N := some 146) (v := ?_) (a' := ?_) (hogsheadlaw15_ValueKeys.bm 9 3) rfl rfl (any_of HT_.out (by kernel_rfl)) (fun _ _ _ h => h) (Or.inl ⟨by rfl, ?_⟩) ?_ ?_
                          rotate_left
                          ·intro w'
                           go_simp
                           with_reducible rfl
                          rotate_left
                          ·simp only [Act.put, List.setIfInBounds_toArray, List.set_cons_zero, List.set_cons_succ, i64_w, i32_w]
                           rfl
                          refine pure_ (i := 2) (N := some 147) (v := ?_) (a' := ?_) (hogsheadlaw15_ValueKeys.bm 9 7) rfl rfl (any_of HT_.out (by kernel_rfl)) (fun _ _ _ h => h) (Or.inl ⟨by rfl, ?_⟩) ?_ ?_
                          rotate_left
                          ·intro w'
                           go_simp
                           with_reducible rfl
                          rotate_left
                          ·simp only [Act.put, List.setIfInBounds_toArray, List.set_cons_zero, List.set_cons_succ, i64_w, i32_w]
                           rfl
                          refine pure_ (i := 4) (N := some 149) (v := ?_) (a' := ?_) (hogsheadlaw15_ValueKeys.bm 9 23) rfl rfl (any_of HT_.out (by kernel_rfl)) (fun _ _ _ h => h) (Or.inl ⟨by rfl, ?_⟩) ?_ ?_
                          rotate_left
                          ·intro w'
                           go_simp
                           with_reducible rfl
                          rotate_left
                          ·simp only [Act.put, List.setIfInBounds_toArray, List.set_cons_zero, List.set_cons_succ, i64_w, i32_w]
                           rfl
                          refine pure_ (i := 5) (N := some 150) (v := ?_) (a' := ?_) (hogsheadlaw15_ValueKeys.bm 9 55) rfl rfl (any_of HT_.out (by kernel_rfl)) (fun _ _ _ h => h) (Or.inl ⟨by rfl, ?_⟩) ?_ ?_
                          rotate_left
                          ·intro w'
                           go_simp
                           with_reducible rfl
                          rotate_left
                          ·simp only [Act.put, List.setIfInBounds_toArray, List.set_cons_zero, List.set_cons_succ, i64_w, i32_w]
                           rfl
                          refine pure_ (i := 6) (N := some 151) (v := ?_) (a' := ?_) (hogsheadlaw15_ValueKeys.bm 9 119) rfl rfl (any_of HT_.out (by kernel_rfl)) (fun _ _ _ h => h) (Or.inl ⟨by rfl, ?_⟩) ?_ ?_
                          rotate_left
                          ·intro w'
                           go_simp
                           with_reducible rfl
                          rotate_left
                          ·simp only [Act.put, List.setIfInBounds_toArray, List.set_cons_zero, List.set_cons_succ, i64_w, i32_w]
                           rfl
                          refine take_ (i := 3) (N := some 148) (v := ?_) (a' := ?_) (hogsheadlaw15_ValueKeys.bm 9 127) rfl rfl (qAt HT_.out HW_.out (by kernel_rfl)) (fun _ _ _ h => h) (Or.inl ⟨by rfl, ?_⟩) hHeld ?_ ?_
                          rotate_left
                          ·rintro w' ⟨s0, s1⟩
                           go_simp
                           with_reducible rfl
                          rotate_left
                          ·simp only [Act.put, List.setIfInBounds_toArray, List.set_cons_zero, List.set_cons_succ, i64_w, i32_w]
                           rfl
                          refine take_ (i := 7) (N := some 152) (v := ?_) (a' := ?_) (hogsheadlaw15_ValueKeys.bm 9 255) rfl rfl (qAt HT_.out HW_.out (by kernel_rfl)) (fun _ _ _ h => h) (Or.inl ⟨by rfl, ?_⟩) hHeld ?_ ?_
                          rotate_left
                          ·rintro w' ⟨s0, s1⟩
                           go_simp
                           with_reducible rfl
                          rotate_left
                          ·simp only [Act.put, List.setIfInBounds_toArray, List.set_cons_zero, List.set_cons_succ, i64_w, i32_w]
                           rfl
                          refine pure_ (i := 8) (N := some 153) (v := ?_) (a' := ?_) (hogsheadlaw15_ValueKeys.bm 9 511) rfl rfl (any_of HT_.out (by kernel_rfl)) (fun _ _ _ h => h) (Or.inl ⟨by rfl, ?_⟩) ?_ ?_
                          rotate_left
                          ·intro w'
                           go_simp
                           with_reducible rfl
                          rotate_left
                          ·simp only [Act.put, List.setIfInBounds_toArray, List.set_cons_zero, List.set_cons_succ, i64_w, i32_w]
                           rfl
                          refine done_ (qBm HT_.out (by kernel_rfl)) ?_
                          try go_wp2
                          go_roundg k7
                          case measure => have := HJ2.out; have := HK2.out; have := HK3.out; have := HJ32.out; have := HK5.out; have := HK6.out; have := HK7.out; omega
                          case rel => exact ⟨(wrap64 (x15_7 + 1)), (by first | rfl | (simp; done) | (simp [*]; done) | exact congrArg Value.bool (nil_ne _) | exact congrArg Value.bool (nil_eq _) | exact congrArg Value.bool (nil_ne' _)), H', ⟨by have := HJ2.out; have := HK2.out; have := HK3.out; have := HJ32.out; have := HK5.out; have := HK6.out; have := HK7.out; omega⟩, ⟨by (with_reducible repeat (first | apply Kd.N_alloc | apply Kd.N_drewN | apply Kd.N_drew)); exact HO_5.out⟩, ⟨by (with_reducible repeat (first | apply Kd.N_alloc | apply Kd.N_drewN | apply Kd.N_drew)); exact HO_339004.out⟩, ⟨by (with_reducible repeat (first | apply Kd.R_alloc | apply Kd.R_drewN | apply Kd.R_drew)); exact HO_339005.out⟩, ⟨by (with_reducible repeat (first | refine qAg ?_ _ | refine qAh ?_ | refine blk_alloc ?_ _)); exact BK338.out⟩, ⟨by repeat (first | (with_reducible first | exact HB.out | apply qAd | apply qAc | apply qAe | refine qAf ?_ GE338.out) | exact HB.out)⟩⟩
                        ·rw [if_neg c86] at H
                         exact absurd H (by simp)
                       ·rw [if_neg c85] at H
                        exact absurd H (by simp)
                      ·rw [if_neg c84] at H
                       exact absurd H (by simp)
                     ·rw [if_neg c83] at H
                      exact absurd H (by simp)
                  ·rw [if_neg c82] at H
                   have c82b0 : decide (x14_6 < (l0.length : Int)) = false := decide_eq_false c82
                   clear c82
                   replace H := Option.bind_eq_some_iff.mp H
                   obtain ⟨t353, A1100, H⟩ := H
                   replace H : (some t353) = some r := H
                   have A110 := Aside0.mk A1100
                   clear A1100
                   obtain rfl := Option.some.inj H
                   go_wp2_with (first | ((with_reducible refine qAp (f := 15) rfl ?_); refine goesL_ (some 176) rfl rfl Tryd.func15 (by kernel_rfl) rfl #[] rfl (by (try simp only [List.map_toArray, List.map_cons, List.map_nil]); first | done | rfl | (simp only [List.length_drop, List.length_take]; rfl)) ?_; (with_reducible refine (hogsheadlaw15_awake.calls k6  t353 _ ?side1 A110.out).mono ?_); (case side1 => exact ⟨Tabs.below hT.out (by repeat (first | (with_reducible first | exact HB.out | apply qAd | apply qAc | apply qAe | refine qAf ?_ GE338.out) | exact HB.out))⟩); rintro e w111 ⟨rfl, hb⟩; refine ⟨_, rfl, ?_⟩; have n0_ := Aside0.mk (Kd.N_below (by (with_reducible repeat (first | apply Kd.N_alloc | apply Kd.N_drewN | apply Kd.N_drew)); exact HO_5.out) hb); have n1_ := Aside0.mk (Kd.N_below (by (with_reducible repeat (first | apply Kd.N_alloc | apply Kd.N_drewN | apply Kd.N_drew)); exact HO_339004.out) hb); have n2_ := Aside0.mk (Kd.R_below (by (with_reducible repeat (first | apply Kd.R_alloc | apply Kd.R_drewN | apply Kd.R_drew)); exact HO_339005.out) hb); have n3_ := Aside0.mk (qAk (g := gb338) (o := .cells #[.int .i64 t328, .bool t329, .int .i64 t330, .string t331, .slice Ao38 t332.length co38, .slice Ao39 t335.length co39] 25 (0, 0)) (by (with_reducible repeat (first | refine qAg ?_ _ | refine qAh ?_ | refine blk_alloc ?_ _)); exact BK338.out) hb); have n4_ := Aside0.mk (qAi (by repeat (first | (with_reducible first | exact HB.out | apply qAd | apply qAc | apply qAe | refine qAf ?_ GE338.out) | exact HB.out)) hb); clear HO_5; clear HO_339004; clear HO_339005; clear BK338; clear HB; have HO_5 := n0_; have HO_339004 := n1_; have HO_339005 := n2_; have BK338 := n3_; have HB := n4_; clear n0_ n1_ n2_ n3_ n4_; (try clear hb); (try clear hb2); (try clear hk); (try clear hi)))
                   go_ret
                   exact ⟨by first | rfl | (simp [qAm, qAl] <;> rfl) | (simp [*, qAm, qAl] <;> rfl), by repeat (first | (with_reducible first | exact HB.out | apply qAd | apply qAc | apply qAe | refine qAf ?_ GE338.out) | exact HB.out)⟩
end Go.Proofs.YtbnoihpooeombaaDoor.P
