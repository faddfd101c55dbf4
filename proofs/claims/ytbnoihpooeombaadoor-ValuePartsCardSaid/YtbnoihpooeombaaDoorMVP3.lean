/- Part 3 of what is behind the row RowValueParts: Pf47, Pf16, XVX, XVY, Pf24, XVZ, Pf98, Pf70, Pf71, Pf49, XVH, XVG, Pf55, Pf25, Pf19, XVR. -/
import Derived.Test.YtbnoihpooeombaaDoorMVP2
import Derived.Outline
import Derived.WalkLawsBesides
import Derived.WalkSpells
import Derived.LoopTactic
import Derived.Laws.Bits64b
import Derived.Laws.BytesArg
import Derived.Lib.Hide
import Derived.Laws.NewBlocks
import Derived.Lib.AppendIntMem
import Derived.Shelf.Strings.Builder1
import Derived.Shelf.Strings.Builder2
import Derived.Shelf.Strings.OnBuilder
import Derived.Shelf.Strings.BuilderF
import Derived.Shelf.Strings.BuilderK
import Derived.Shelf.Strconv.Itoa0
import Derived.Shelf.Strconv.Itoa1
import Derived.Shelf.LaysM
import Derived.Shelf.Strconv.Itoa2
import Derived.Shelf.Strconv.Itoa3
import Derived.Shelf.Strings.Prefix
import Derived.Shelf.Bits.Mul64
import Derived.Shelf.Strings.Repeat
import Derived.Test.YtbnoihpooeombaaDoorProg
import Derived.WalkKit
import Derived.Lib.ItoaNum
import Derived.Lib.ItoaMem
import Derived.Below
import Derived.Deep.Draws
import Derived.Deep.AppendLies
import Derived.Maps.AppendAt
import Derived.OwnWalk
import Derived.Laws.MakeOwn
import Derived.Laws.OwnMore
import Derived.Deep.OwnRows
import Derived.Tactics
import Derived.Lib.ConvBytes
import Derived.Laws.Slices
import Derived.KernelRfl
import Derived.RowKit3
import Derived.Deep.LoopGhost
import Derived.Deep.QuietTactic
import Derived.BigQuiet
import Derived.WideLaws
import Derived.Deep.DeepCutAuto
import Derived.Deep.CutBlock
import Derived.Deep.RegionHeld3
import Derived.Laws.Rows
import Derived.Lib.AppendStr
import Derived.ArgAppend
import Derived.Laws.IdiomCopy
import Derived.RowKit
import Derived.OrdersHeld
import Derived.Laws.BitsLemmas
import Derived.Laws.Cover1
import Derived.Laws.StructEq
import Derived.Deep.AppendSrc
import Derived.Lib.SliceRun
import Derived.Lib.IndexMore
import Derived.Lib.Bytealg
import Derived.Laws.BitsAllLaws
import Derived.Lib.Repeat
import Derived.Deep.DeepMust
import Derived.Lib.ItoaLen
namespace Go.Proofs.YtbnoihpooeombaaDoor.P
open Go.Proofs.YtbnoihpooeombaaDoor.X
open Go.RowKit Go.Proofs.YtbnoihpooeombaaDoorW.PrintWords Go.Proofs.YtbnoihpooeombaaDoorW.PrintLast Go.Proofs.YtbnoihpooeombaaDoorW.PrintMore
attribute [local go_sem] qAr qAy
set_option linter.unusedVariables false
set_option linter.unusedSimpArgs false
mutual
def value_text.j0 : Nat → Bool → Int → Bool → Int → ByteArray → List (S25) → List ByteArray → Option (ByteArray)
 | 0, _, _, _, _, _, _, _ => none
 | k + 1, x25, x137000, x137001, x137002, x137003, x137004, x137005 => if x25 = true then (value_text.l0 k ([] : List ByteArray) x137004 (x137004.length : Int) 0 x137000 x137001 x137002 x137003 x137004 x137005) else (some (⟨#[110, 117, 108, 108]⟩ : ByteArray))
def value_text.l0 : Nat → List ByteArray → List (S25) → Int → Int → Int → Bool → Int → ByteArray → List (S25) → List ByteArray → Option (ByteArray)
 | 0, _, _, _, _, _, _, _, _, _, _ => none
 | k + 1, x3, x29, x30, x31, x137000, x137001, x137002, x137003, x137004, x137005 => if x31 < x30 then (if 0 ≤ x31 then (if x31 < (x29.length : Int) then ((value_text.f k ((rd_T25 x29 x31).f0) ((rd_T25 x29 x31).f1) ((rd_T25 x29 x31).f2) ((rd_T25 x29 x31).f3) ((rd_T25 x29 x31).f4) ((rd_T25 x29 x31).f5)).bind fun t143 => (if x137000 = 5 then (if x31 < (x137005.length : Int) then ((value_Quote.f k (rdOf ByteArray.empty x137005 x31)).bind fun t145 => (if t145.size + 1 ≤ 9223372036854775807 then (if (t145 ++ (⟨#[58]⟩ : ByteArray)).size + t143.size ≤ 9223372036854775807 then (if x3.length < 8796093022208 then (value_text.l0 k (x3 ++ [(t145 ++ (⟨#[58]⟩ : ByteArray)) ++ t143]) x29 x30 (wrap64 (x31 + 1)) x137000 x137001 x137002 x137003 x137004 x137005) else (none)) else (none)) else (none))) else (none)) else (if x3.length < 8796093022208 then (value_text.l0 k (x3 ++ [t143]) x29 x30 (wrap64 (x31 + 1)) x137000 x137001 x137002 x137003 x137004 x137005) else (none)))) else (none)) else (none)) else ((strings_Join.f x3 (⟨#[44]⟩ : ByteArray)).bind fun t140 => (if x137000 = 5 then (if 1 + t140.size ≤ 9223372036854775807 then (if ((⟨#[123]⟩ : ByteArray) ++ t140).size + 1 ≤ 9223372036854775807 then (some (((⟨#[123]⟩ : ByteArray) ++ t140) ++ (⟨#[125]⟩ : ByteArray))) else (none)) else (none)) else (if 1 + t140.size ≤ 9223372036854775807 then (if ((⟨#[91]⟩ : ByteArray) ++ t140).size + 1 ≤ 9223372036854775807 then (some (((⟨#[91]⟩ : ByteArray) ++ t140) ++ (⟨#[93]⟩ : ByteArray))) else (none)) else (none))))
def value_text.f : Nat → Int → Bool → Int → ByteArray → List (S25) → List ByteArray → Option (ByteArray)
 | 0, _, _, _, _, _, _ => none
 | k + 1, a0_0, a0_1, a0_2, a0_3, l0_4, l0_5 => if a0_0 = 1 then ((strconv_FormatBool_66.f a0_1).bind fun t137 => (some t137)) else (if a0_0 = 2 then ((strconv_Itoa.f a0_2).bind fun t138 => (some t138)) else (if a0_0 = 3 then ((value_Quote.f k a0_3).bind fun t139 => (some t139)) else (if a0_0 = 4 then (value_text.j0 k (a0_0 == 4) a0_0 a0_1 a0_2 a0_3 l0_4 l0_5) else (value_text.j0 k (a0_0 == 5) a0_0 a0_1 a0_2 a0_3 l0_4 l0_5))))
end
theorem value_text.mono_l : ∀ k, (∀ y0 y1 y2 y3 y4 y5, LeO (value_text.f k y0 y1 y2 y3 y4 y5) (value_text.f (k + 1) y0 y1 y2 y3 y4 y5)) ∧ (∀ y0 y1 y2 y3 y4 y5 y6, LeO (value_text.j0 k y0 y1 y2 y3 y4 y5 y6) (value_text.j0 (k + 1) y0 y1 y2 y3 y4 y5 y6)) ∧ (∀ y0 y1 y2 y3 y4 y5 y6 y7 y8 y9, LeO (value_text.l0 k y0 y1 y2 y3 y4 y5 y6 y7 y8 y9) (value_text.l0 (k + 1) y0 y1 y2 y3 y4 y5 y6 y7 y8 y9))
 | 0 => ⟨fun _ _ _ _ _ _ r h => by simp [value_text.f] at h, fun _ _ _ _ _ _ _ r h => by simp [value_text.j0] at h, fun _ _ _ _ _ _ _ _ _ _ r h => by simp [value_text.l0] at h⟩
 | k + 1 => by
  obtain ⟨ih0, ih1, ih2⟩ := value_text.mono_l k
  refine ⟨?_, ?_, ?_⟩
  ·intro y0 y1 y2 y3 y4 y5
   unfold value_text.f
   repeat' first
   | (with_reducible exact ih0 _ _ _ _ _ _)
   | (with_reducible exact ih1 _ _ _ _ _ _ _)
   | (with_reducible exact ih2 _ _ _ _ _ _ _ _ _ _)
   | (with_reducible exact value_Quote.mono _ _)
   | (with_reducible exact LeO.refl _)
   | (with_reducible exact LeO.none _)
   | (with_reducible refine LeO.ite ?_ ?_)
   | (with_reducible refine LeO.bind ?_ (fun _ => ?_))
   | exact ih0 _ _ _ _ _ _
   | exact ih1 _ _ _ _ _ _ _
   | exact ih2 _ _ _ _ _ _ _ _ _ _
   | exact value_Quote.mono _ _
   | exact LeO.none _
   | refine LeO.ite ?_ ?_
   | refine LeO.bind ?_ (fun _ => ?_)
  ·intro y0 y1 y2 y3 y4 y5 y6
   unfold value_text.j0
   repeat' first
   | (with_reducible exact ih0 _ _ _ _ _ _)
   | (with_reducible exact ih1 _ _ _ _ _ _ _)
   | (with_reducible exact ih2 _ _ _ _ _ _ _ _ _ _)
   | (with_reducible exact value_Quote.mono _ _)
   | (with_reducible exact LeO.refl _)
   | (with_reducible exact LeO.none _)
   | (with_reducible refine LeO.ite ?_ ?_)
   | (with_reducible refine LeO.bind ?_ (fun _ => ?_))
   | exact ih0 _ _ _ _ _ _
   | exact ih1 _ _ _ _ _ _ _
   | exact ih2 _ _ _ _ _ _ _ _ _ _
   | exact value_Quote.mono _ _
   | exact LeO.none _
   | refine LeO.ite ?_ ?_
   | refine LeO.bind ?_ (fun _ => ?_)
  ·intro y0 y1 y2 y3 y4 y5 y6 y7 y8 y9
   unfold value_text.l0
   repeat' first
   | (with_reducible exact ih0 _ _ _ _ _ _)
   | (with_reducible exact ih1 _ _ _ _ _ _ _)
   | (with_reducible exact ih2 _ _ _ _ _ _ _ _ _ _)
   | (with_reducible exact value_Quote.mono _ _)
   | (with_reducible exact LeO.refl _)
   | (with_reducible exact LeO.none _)
   | (with_reducible refine LeO.ite ?_ ?_)
   | (with_reducible refine LeO.bind ?_ (fun _ => ?_))
   | exact ih0 _ _ _ _ _ _
   | exact ih1 _ _ _ _ _ _ _
   | exact ih2 _ _ _ _ _ _ _ _ _ _
   | exact value_Quote.mono _ _
   | exact LeO.none _
   | refine LeO.ite ?_ ?_
   | refine LeO.bind ?_ (fun _ => ?_)
theorem value_text.mono : ∀ a0 a1 a2 a3 a4 a5 k, LeO (value_text.f k a0 a1 a2 a3 a4 a5) (value_text.f (k + 1) a0 a1 a2 a3 a4 a5) := by
 intro a0 a1 a2 a3 a4 a5 k
 obtain ⟨ih0, ih1, ih2⟩ := value_text.mono_l k
 exact ih0 a0 a1 a2 a3 a4 a5
set_option maxHeartbeats 8000000 in
set_option maxRecDepth 100000 in
theorem value_text.calls (k : Nat) : ∀ (a0_0 : Int) (a0_1 : Bool) (a0_2 : Int) (a0_3 : ByteArray) (A0_4 : Option Addr) (c0_4 : Nat) (l0_4 : List (S25)) (A0_5 : Option Addr) (c0_5 : Nat) (l0_5 : List ByteArray) (r : ByteArray) (w : World) (hT : Aside0 (Tabs w)) (hr0_4 : Kd.C k25 w A0_4 l0_4.length l0_4) (hc0_4 : l0_4.length ≤ c0_4) (hr0_5 : Kd.C Kd.string w A0_5 l0_5.length l0_5) (hc0_5 : l0_5.length ≤ c0_5) (h : value_text.f k a0_0 a0_1 a0_2 a0_3 l0_4 l0_5 = some r),
  Calls Tryd.prog 47 #[.agg #[.int .i64 a0_0, .bool a0_1, .int .i64 a0_2, .string a0_3, .slice A0_4 l0_4.length c0_4, .slice A0_5 l0_5.length c0_5]] w fun e w' => e = .returned (.string r) ∧ Below w.heap.size w w' := by
 induction k using Nat.strongRecOn with
 | _ k ih =>
 intro a0_0 a0_1 a0_2 a0_3 A0_4 c0_4 l0_4 A0_5 c0_5 l0_5 r w hT hr0_4 hc0_4 hr0_5 hc0_5 h
 cases k with
 | zero => exact absurd h (by simp [value_text.f])
 | succ k =>
 simp only [value_text.f] at h
 have hu25 := Tryd.underlying25
 have HR0_4 := Aside0.mk hr0_4
 have HC0_4 := Aside0.mk hc0_4
 clear hr0_4 hc0_4
 have HR0_5 := Aside0.mk hr0_5
 have HC0_5 := Aside0.mk hc0_5
 clear hr0_5 hc0_5
 have HB := Aside0.mk (Below.refl w.heap.size w)
 have H : (if a0_0 = 1 then ((strconv_FormatBool_66.f a0_1).bind fun t137 => (some t137)) else (if a0_0 = 2 then ((strconv_Itoa.f a0_2).bind fun t138 => (some t138)) else (if a0_0 = 3 then ((value_Quote.f k a0_3).bind fun t139 => (some t139)) else (if a0_0 = 4 then (value_text.j0 k (a0_0 == 4) a0_0 a0_1 a0_2 a0_3 l0_4 l0_5) else (value_text.j0 k (a0_0 == 5) a0_0 a0_1 a0_2 a0_3 l0_4 l0_5))))) = some r := h
 clear h
 by_cases c2 : a0_0 = 1
 ·rw [if_pos c2] at H
  have c2b0 : (a0_0 == 1) = true := beq_iff_eq.mpr c2
  have c2b1 : (a0_0 != 1) = false := bne_eq_false_iff_eq.mpr c2
  clear c2
  replace H := Option.bind_eq_some_iff.mp H
  obtain ⟨t137, A30, H⟩ := H
  replace H : (some t137) = some r := H
  have A3 := Aside0.mk A30
  clear A30
  obtain rfl := Option.some.inj H
  go_enter Tryd.func47, Tryd.ntmps47
  go_wp2_with (first | ((with_reducible refine qA0 (N := 1) rfl ?_); refine qAz ?hg (N := 1) ?hd (cs := #[.int .i64 a0_0, .bool a0_1, .int .i64 a0_2, .string a0_3, .slice A0_4 l0_4.length c0_4, .slice A0_5 l0_5.length c0_5]) (t := 25) ?hr ?_; (case hd => rfl); (case hg => rfl); (case hr => first | (go_simp; done) | (go_simp; rfl)); intro gb136 hg w4 hbox hb; have n0_ := Aside0.mk (qAi (by repeat (first | (with_reducible first | exact HB.out | apply qAd | apply qAb | apply qAe) | exact HB.out)) hb); have n1_ := Aside0.mk (hbox); have n2_ := Aside0.mk ((by rw [hg]; exact (qAj (by repeat (first | (with_reducible first | exact HB.out | apply qAd | apply qAb | apply qAe) | exact HB.out))) : w.heap.size ≤ gb136)); have n3_ := Aside0.mk ((by rw [hg]; exact (qAj (by repeat (first | (with_reducible first | exact HB.out | apply qAd | apply qAb | apply qAe) | exact HB.out))) : w.heap.size ≤ gb136)); clear HB; have HB := n0_; have BK136 := n1_; have GW136 := n2_; have GE136 := n3_; clear n0_ n1_ n2_ n3_; clear hb hbox hg; have hcz5_0 : w4.cell? ⟨gb136, 0, none⟩ = some (.int .i64 a0_0) := (qAc BK136.out 0).trans rfl; have hcz5_1 : w4.cell? ⟨gb136, 1, none⟩ = some (.bool a0_1) := (qAc BK136.out 1).trans rfl; have hcz5_2 : w4.cell? ⟨gb136, 2, none⟩ = some (.int .i64 a0_2) := (qAc BK136.out 2).trans rfl; have hcz5_3 : w4.cell? ⟨gb136, 3, none⟩ = some (.string a0_3) := (qAc BK136.out 3).trans rfl; have hcz5_4 : w4.cell? ⟨gb136, 4, none⟩ = some (.slice A0_4 l0_4.length c0_4) := (qAc BK136.out 4).trans rfl; have hcz5_5 : w4.cell? ⟨gb136, 5, none⟩ = some (.slice A0_5 l0_5.length c0_5) := (qAc BK136.out 5).trans rfl; have hfz5_0 := qAa BK136.out 0; have hfz5_1 := qAa BK136.out 1; have hfz5_2 := qAa BK136.out 2; have hfz5_3 := qAa BK136.out 3; have hfz5_4 := qAa BK136.out 4; have hfz5_5 := qAa BK136.out 5) | ((with_reducible refine qAn (f := 66) rfl ?_); refine goesL_ (some 14) rfl rfl Tryd.func66 (by kernel_rfl) rfl #[.bool a0_1] rfl (by (try simp only [List.map_toArray, List.map_cons, List.map_nil]); first | done | rfl | (simp only [List.length_drop, List.length_take]; rfl)) ?_; (with_reducible refine (strconv_FormatBool_66.calls a0_1 t137 _ A3.out).mono ?_); rintro e w' ⟨rfl, ⟨nd, rfl⟩⟩; refine ⟨_, rfl, ?_⟩))
  go_ret
  exact ⟨by first | rfl | (simp [qAm, qAl] <;> rfl) | (simp [*, qAm, qAl] <;> rfl), by repeat (first | (with_reducible first | exact HB.out | apply qAd | apply qAb | apply qAe | refine qAg ?_ GE136.out) | exact HB.out)⟩
 ·rw [if_neg c2] at H
  have c2b0 : (a0_0 == 1) = false := beq_eq_false_iff_ne.mpr c2
  have c2b1 : (a0_0 != 1) = true := bne_iff_ne.mpr c2
  by_cases c6 : a0_0 = 2
  ·rw [if_pos c6] at H
   have c6b0 : (a0_0 == 2) = true := beq_iff_eq.mpr c6
   have c6b1 : (a0_0 != 2) = false := bne_eq_false_iff_eq.mpr c6
   clear c6
   replace H := Option.bind_eq_some_iff.mp H
   obtain ⟨t138, A70, H⟩ := H
   replace H : (some t138) = some r := H
   have A7 := Aside0.mk A70
   clear A70
   obtain rfl := Option.some.inj H
   go_enter Tryd.func47, Tryd.ntmps47
   go_wp2_with (first | ((with_reducible refine qA0 (N := 1) rfl ?_); refine qAz ?hg (N := 1) ?hd (cs := #[.int .i64 a0_0, .bool a0_1, .int .i64 a0_2, .string a0_3, .slice A0_4 l0_4.length c0_4, .slice A0_5 l0_5.length c0_5]) (t := 25) ?hr ?_; (case hd => rfl); (case hg => rfl); (case hr => first | (go_simp; done) | (go_simp; rfl)); intro gb136 hg w8 hbox hb; have n0_ := Aside0.mk (qAi (by repeat (first | (with_reducible first | exact HB.out | apply qAd | apply qAb | apply qAe) | exact HB.out)) hb); have n1_ := Aside0.mk (hbox); have n2_ := Aside0.mk ((by rw [hg]; exact (qAj (by repeat (first | (with_reducible first | exact HB.out | apply qAd | apply qAb | apply qAe) | exact HB.out))) : w.heap.size ≤ gb136)); have n3_ := Aside0.mk ((by rw [hg]; exact (qAj (by repeat (first | (with_reducible first | exact HB.out | apply qAd | apply qAb | apply qAe) | exact HB.out))) : w.heap.size ≤ gb136)); clear HB; have HB := n0_; have BK136 := n1_; have GW136 := n2_; have GE136 := n3_; clear n0_ n1_ n2_ n3_; clear hb hbox hg; have hcz9_0 : w8.cell? ⟨gb136, 0, none⟩ = some (.int .i64 a0_0) := (qAc BK136.out 0).trans rfl; have hcz9_1 : w8.cell? ⟨gb136, 1, none⟩ = some (.bool a0_1) := (qAc BK136.out 1).trans rfl; have hcz9_2 : w8.cell? ⟨gb136, 2, none⟩ = some (.int .i64 a0_2) := (qAc BK136.out 2).trans rfl; have hcz9_3 : w8.cell? ⟨gb136, 3, none⟩ = some (.string a0_3) := (qAc BK136.out 3).trans rfl; have hcz9_4 : w8.cell? ⟨gb136, 4, none⟩ = some (.slice A0_4 l0_4.length c0_4) := (qAc BK136.out 4).trans rfl; have hcz9_5 : w8.cell? ⟨gb136, 5, none⟩ = some (.slice A0_5 l0_5.length c0_5) := (qAc BK136.out 5).trans rfl; have hfz9_0 := qAa BK136.out 0; have hfz9_1 := qAa BK136.out 1; have hfz9_2 := qAa BK136.out 2; have hfz9_3 := qAa BK136.out 3; have hfz9_4 := qAa BK136.out 4; have hfz9_5 := qAa BK136.out 5) | ((with_reducible refine qAn (f := 67) rfl ?_); refine goesL_ (some 19) rfl rfl Tryd.func67 (by kernel_rfl) rfl #[.int .i64 a0_2] rfl (by (try simp only [List.map_toArray, List.map_cons, List.map_nil]); first | done | rfl | (simp only [List.length_drop, List.length_take]; rfl)) ?_; (with_reducible refine (strconv_Itoa.calls a0_2 t138 _ ?side1 A7.out).mono ?_); (case side1 => exact ⟨Tabs.below hT.out (by repeat (first | (with_reducible first | exact HB.out | apply qAd | apply qAb | apply qAe | refine qAg ?_ GE136.out) | exact HB.out))⟩); rintro e w10 ⟨rfl, hb⟩; refine ⟨_, rfl, ?_⟩; have n0_ := Aside0.mk (qAk (g := gb136) (o := .cells #[.int .i64 a0_0, .bool a0_1, .int .i64 a0_2, .string a0_3, .slice A0_4 l0_4.length c0_4, .slice A0_5 l0_5.length c0_5] 25 (0, 0)) (by (with_reducible repeat (first | refine qAf ?_ _ | refine qAh ?_ | refine blk_alloc ?_ _)); exact BK136.out) hb); have n1_ := Aside0.mk (qAi (by repeat (first | (with_reducible first | exact HB.out | apply qAd | apply qAb | apply qAe | refine qAg ?_ GE136.out) | exact HB.out)) hb); clear BK136; clear HB; have BK136 := n0_; have HB := n1_; clear n0_ n1_; (try clear hb); (try clear hb2); (try clear hk); (try clear hi)))
   go_ret
   exact ⟨by first | rfl | (simp [qAm, qAl] <;> rfl) | (simp [*, qAm, qAl] <;> rfl), by repeat (first | (with_reducible first | exact HB.out | apply qAd | apply qAb | apply qAe | refine qAg ?_ GE136.out) | exact HB.out)⟩
  ·rw [if_neg c6] at H
   have c6b0 : (a0_0 == 2) = false := beq_eq_false_iff_ne.mpr c6
   have c6b1 : (a0_0 != 2) = true := bne_iff_ne.mpr c6
   by_cases c11 : a0_0 = 3
   ·rw [if_pos c11] at H
    have c11b0 : (a0_0 == 3) = true := beq_iff_eq.mpr c11
    have c11b1 : (a0_0 != 3) = false := bne_eq_false_iff_eq.mpr c11
    clear c11
    replace H := Option.bind_eq_some_iff.mp H
    obtain ⟨t139, A120, H⟩ := H
    replace H : (some t139) = some r := H
    have A12 := Aside0.mk A120
    clear A120
    obtain rfl := Option.some.inj H
    go_enter Tryd.func47, Tryd.ntmps47
    go_wp2_with (first | ((with_reducible refine qA0 (N := 1) rfl ?_); refine qAz ?hg (N := 1) ?hd (cs := #[.int .i64 a0_0, .bool a0_1, .int .i64 a0_2, .string a0_3, .slice A0_4 l0_4.length c0_4, .slice A0_5 l0_5.length c0_5]) (t := 25) ?hr ?_; (case hd => rfl); (case hg => rfl); (case hr => first | (go_simp; done) | (go_simp; rfl)); intro gb136 hg w13 hbox hb; have n0_ := Aside0.mk (qAi (by repeat (first | (with_reducible first | exact HB.out | apply qAd | apply qAb | apply qAe) | exact HB.out)) hb); have n1_ := Aside0.mk (hbox); have n2_ := Aside0.mk ((by rw [hg]; exact (qAj (by repeat (first | (with_reducible first | exact HB.out | apply qAd | apply qAb | apply qAe) | exact HB.out))) : w.heap.size ≤ gb136)); have n3_ := Aside0.mk ((by rw [hg]; exact (qAj (by repeat (first | (with_reducible first | exact HB.out | apply qAd | apply qAb | apply qAe) | exact HB.out))) : w.heap.size ≤ gb136)); clear HB; have HB := n0_; have BK136 := n1_; have GW136 := n2_; have GE136 := n3_; clear n0_ n1_ n2_ n3_; clear hb hbox hg; have hcz14_0 : w13.cell? ⟨gb136, 0, none⟩ = some (.int .i64 a0_0) := (qAc BK136.out 0).trans rfl; have hcz14_1 : w13.cell? ⟨gb136, 1, none⟩ = some (.bool a0_1) := (qAc BK136.out 1).trans rfl; have hcz14_2 : w13.cell? ⟨gb136, 2, none⟩ = some (.int .i64 a0_2) := (qAc BK136.out 2).trans rfl; have hcz14_3 : w13.cell? ⟨gb136, 3, none⟩ = some (.string a0_3) := (qAc BK136.out 3).trans rfl; have hcz14_4 : w13.cell? ⟨gb136, 4, none⟩ = some (.slice A0_4 l0_4.length c0_4) := (qAc BK136.out 4).trans rfl; have hcz14_5 : w13.cell? ⟨gb136, 5, none⟩ = some (.slice A0_5 l0_5.length c0_5) := (qAc BK136.out 5).trans rfl; have hfz14_0 := qAa BK136.out 0; have hfz14_1 := qAa BK136.out 1; have hfz14_2 := qAa BK136.out 2; have hfz14_3 := qAa BK136.out 3; have hfz14_4 := qAa BK136.out 4; have hfz14_5 := qAa BK136.out 5) | ((with_reducible refine qAn (f := 26) rfl ?_); refine goesL_ (some 24) rfl rfl Tryd.func26 (by kernel_rfl) rfl #[.string a0_3] rfl (by (try simp only [List.map_toArray, List.map_cons, List.map_nil]); first | done | rfl | (simp only [List.length_drop, List.length_take]; rfl)) ?_; (with_reducible refine (value_Quote.calls k a0_3 t139 _ A12.out).mono ?_); rintro e w15 ⟨rfl, hb⟩; refine ⟨_, rfl, ?_⟩; have n0_ := Aside0.mk (qAk (g := gb136) (o := .cells #[.int .i64 a0_0, .bool a0_1, .int .i64 a0_2, .string a0_3, .slice A0_4 l0_4.length c0_4, .slice A0_5 l0_5.length c0_5] 25 (0, 0)) (by (with_reducible repeat (first | refine qAf ?_ _ | refine qAh ?_ | refine blk_alloc ?_ _)); exact BK136.out) hb); have n1_ := Aside0.mk (qAi (by repeat (first | (with_reducible first | exact HB.out | apply qAd | apply qAb | apply qAe | refine qAg ?_ GE136.out) | exact HB.out)) hb); clear BK136; clear HB; have BK136 := n0_; have HB := n1_; clear n0_ n1_; (try clear hb); (try clear hb2); (try clear hk); (try clear hi)))
    go_ret
    exact ⟨by first | rfl | (simp [qAm, qAl] <;> rfl) | (simp [*, qAm, qAl] <;> rfl), by repeat (first | (with_reducible first | exact HB.out | apply qAd | apply qAb | apply qAe | refine qAg ?_ GE136.out) | exact HB.out)⟩
   ·rw [if_neg c11] at H
    have c11b0 : (a0_0 == 3) = false := beq_eq_false_iff_ne.mpr c11
    have c11b1 : (a0_0 != 3) = true := bne_iff_ne.mpr c11
    have HC16 := Aside0.mk H
    clear H
    go_enter Tryd.func47, Tryd.ntmps47
    go_upto_if 25 with (first | ((with_reducible refine qA0 (N := 1) rfl ?_); refine qAz ?hg (N := 1) ?hd (cs := #[.int .i64 a0_0, .bool a0_1, .int .i64 a0_2, .string a0_3, .slice A0_4 l0_4.length c0_4, .slice A0_5 l0_5.length c0_5]) (t := 25) ?hr ?_; (case hd => rfl); (case hg => rfl); (case hr => first | (go_simp; done) | (go_simp; rfl)); intro gb136 hg w17 hbox hb; have n0_ := Aside0.mk (qAi (by repeat (first | (with_reducible first | exact HB.out | apply qAd | apply qAb | apply qAe) | exact HB.out)) hb); have n1_ := Aside0.mk (hbox); have n2_ := Aside0.mk ((by rw [hg]; exact (qAj (by repeat (first | (with_reducible first | exact HB.out | apply qAd | apply qAb | apply qAe) | exact HB.out))) : w.heap.size ≤ gb136)); have n3_ := Aside0.mk ((by rw [hg]; exact (qAj (by repeat (first | (with_reducible first | exact HB.out | apply qAd | apply qAb | apply qAe) | exact HB.out))) : w.heap.size ≤ gb136)); clear HB; have HB := n0_; have BK136 := n1_; have GW136 := n2_; have GE136 := n3_; clear n0_ n1_ n2_ n3_; clear hb hbox hg; have hcz18_0 : w17.cell? ⟨gb136, 0, none⟩ = some (.int .i64 a0_0) := (qAc BK136.out 0).trans rfl; have hcz18_1 : w17.cell? ⟨gb136, 1, none⟩ = some (.bool a0_1) := (qAc BK136.out 1).trans rfl; have hcz18_2 : w17.cell? ⟨gb136, 2, none⟩ = some (.int .i64 a0_2) := (qAc BK136.out 2).trans rfl; have hcz18_3 : w17.cell? ⟨gb136, 3, none⟩ = some (.string a0_3) := (qAc BK136.out 3).trans rfl; have hcz18_4 : w17.cell? ⟨gb136, 4, none⟩ = some (.slice A0_4 l0_4.length c0_4) := (qAc BK136.out 4).trans rfl; have hcz18_5 : w17.cell? ⟨gb136, 5, none⟩ = some (.slice A0_5 l0_5.length c0_5) := (qAc BK136.out 5).trans rfl; have hfz18_0 := qAa BK136.out 0; have hfz18_1 := qAa BK136.out 1; have hfz18_2 := qAa BK136.out 2; have hfz18_3 := qAa BK136.out 3; have hfz18_4 := qAa BK136.out 4; have hfz18_5 := qAa BK136.out 5))
    (try simp only [Act.put, List.setIfInBounds_toArray, List.set_cons_zero, List.set_cons_succ])
    go_cut [25] (fun v25 wc => ∃ (kq : Nat) (x25_15 : Bool), v25 = .bool x25_15 ∧ Aside0 (value_text.j0 kq x25_15 a0_0 a0_1 a0_2 a0_3 l0_4 l0_5 = some r) ∧ Aside0 (kq ≤ k) ∧ Aside0 (wc.heap[gb136]? = some (.cells #[.int .i64 a0_0, .bool a0_1, .int .i64 a0_2, .string a0_3, (.slice A0_4 l0_4.length c0_4), (.slice A0_5 l0_5.length c0_5)] 25 (0, 0))) ∧ Aside0 (Below w.heap.size w wc))
    case first =>
     have H := HC16.out
     clear HC16
     by_cases c19 : a0_0 = 4
     ·rw [if_pos c19] at H
      have c19b0 : (a0_0 == 4) = true := beq_iff_eq.mpr c19
      have c19b1 : (a0_0 != 4) = false := bne_eq_false_iff_eq.mpr c19
      clear c19
      (first | rw [c19b0] | (simp only [i64_w, i32_w]; rw [c19b0]) | skip)
      have H' := Aside0.mk H
      clear H
      go_wp2
      go_meet
      case rel => exact ⟨_, ((a0_0 == 4)), (by first | rfl | (simp; done) | (simp [*]; done) | exact congrArg Value.bool (nil_ne _) | exact congrArg Value.bool (nil_eq _) | exact congrArg Value.bool (nil_ne' _)), H', ⟨by first | omega | exact Nat.le_refl _⟩, ⟨by (with_reducible repeat (first | refine qAf ?_ _ | refine qAh ?_ | refine blk_alloc ?_ _)); exact BK136.out⟩, ⟨by repeat (first | (with_reducible first | exact HB.out | apply qAd | apply qAb | apply qAe | refine qAg ?_ GE136.out) | exact HB.out)⟩⟩
     ·rw [if_neg c19] at H
      have c19b0 : (a0_0 == 4) = false := beq_eq_false_iff_ne.mpr c19
      have c19b1 : (a0_0 != 4) = true := bne_iff_ne.mpr c19
      (first | rw [c19b0] | (simp only [i64_w, i32_w]; rw [c19b0]) | skip)
      have H' := Aside0.mk H
      clear H
      go_wp2
      go_meet
      case rel => exact ⟨_, ((a0_0 == 5)), (by first | rfl | (simp; done) | (simp [*]; done) | exact congrArg Value.bool (nil_ne _) | exact congrArg Value.bool (nil_eq _) | exact congrArg Value.bool (nil_ne' _)), H', ⟨by first | omega | exact Nat.le_refl _⟩, ⟨by (with_reducible repeat (first | refine qAf ?_ _ | refine qAh ?_ | refine blk_alloc ?_ _)); exact BK136.out⟩, ⟨by repeat (first | (with_reducible first | exact HB.out | apply qAd | apply qAb | apply qAe | refine qAg ?_ GE136.out) | exact HB.out)⟩⟩
    case rest =>
     clear HC16
     try clear c1
     try clear c2
     try clear c2b0
     try clear c2b1
     try clear p2
     try clear c4
     try clear c6
     try clear c6b0
     try clear c6b1
     try clear c11
     try clear c11b0
     try clear c11b1
     try clear c19
     try clear c19b0
     try clear c19b1
     try clear hcz14_0
     try clear hcz14_1
     try clear hcz14_2
     try clear hcz14_3
     try clear hcz14_4
     try clear hcz14_5
     try clear hcz18_0
     try clear hcz18_1
     try clear hcz18_2
     try clear hcz18_3
     try clear hcz18_4
     try clear hcz18_5
     try clear hcz5_0
     try clear hcz5_1
     try clear hcz5_2
     try clear hcz5_3
     try clear hcz5_4
     try clear hcz5_5
     try clear hcz9_0
     try clear hcz9_1
     try clear hcz9_2
     try clear hcz9_3
     try clear hcz9_4
     try clear hcz9_5
     try clear hfz14_0
     try clear hfz14_1
     try clear hfz14_2
     try clear hfz14_3
     try clear hfz14_4
     try clear hfz14_5
     try clear hfz18_0
     try clear hfz18_1
     try clear hfz18_2
     try clear hfz18_3
     try clear hfz18_4
     try clear hfz18_5
     try clear hfz5_0
     try clear hfz5_1
     try clear hfz5_2
     try clear hfz5_3
     try clear hfz5_4
     try clear hfz5_5
     try clear hfz9_0
     try clear hfz9_1
     try clear hfz9_2
     try clear hfz9_3
     try clear hfz9_4
     try clear hfz9_5
     obtain ⟨kq, x25_15, rfl, HA, HJ15, BK136, HB⟩ := hcut
     cases kq with
     | zero => exact absurd HA.out (by simp [value_text.j0])
     | succ kj15 =>
      have H := HA.out
      clear HA
      simp only [value_text.j0] at H
      by_cases c20 : x25_15 = true
      ·subst c20
       have H1 : (value_text.l0 kj15 ([] : List ByteArray) l0_4 (l0_4.length : Int) 0 a0_0 a0_1 a0_2 a0_3 l0_4 l0_5) = some r := by rw [if_pos rfl] at H; exact H
       clear H
       have H := H1
       clear H1
       have H' := Aside0.mk H
       clear H
       have hcz21_0 : wc.cell? ⟨gb136, 0, none⟩ = some (.int .i64 a0_0) := (qAc BK136.out 0).trans rfl
       have hcz21_1 : wc.cell? ⟨gb136, 1, none⟩ = some (.bool a0_1) := (qAc BK136.out 1).trans rfl
       have hcz21_2 : wc.cell? ⟨gb136, 2, none⟩ = some (.int .i64 a0_2) := (qAc BK136.out 2).trans rfl
       have hcz21_3 : wc.cell? ⟨gb136, 3, none⟩ = some (.string a0_3) := (qAc BK136.out 3).trans rfl
       have hcz21_4 : wc.cell? ⟨gb136, 4, none⟩ = some (.slice A0_4 l0_4.length c0_4) := (qAc BK136.out 4).trans rfl
       have hcz21_5 : wc.cell? ⟨gb136, 5, none⟩ = some (.slice A0_5 l0_5.length c0_5) := (qAc BK136.out 5).trans rfl
       have hfz21_0 := qAa BK136.out 0
       have hfz21_1 := qAa BK136.out 1
       have hfz21_2 := qAa BK136.out 2
       have hfz21_3 := qAa BK136.out 3
       have hfz21_4 := qAa BK136.out 4
       have hfz21_5 := qAa BK136.out 5
       go_wp2
       go_loopg [3, 31] kj15 (fun kq v3 v31 w' => ∃ (x3_2 : List ByteArray) (x31_2 : Int), v31 = .int .i64 x31_2 ∧ Aside0 (value_text.l0 kq x3_2 l0_4 (l0_4.length : Int) x31_2 a0_0 a0_1 a0_2 a0_3 l0_4 l0_5 = some r) ∧ Aside0 (kq ≤ kj15) ∧ Aside0 (Kd.R Kd.string 9 w' w.heap.size (fun _ => True) v3 x3_2) ∧ Aside0 (w'.heap[gb136]? = some (.cells #[.int .i64 a0_0, .bool a0_1, .int .i64 a0_2, .string a0_3, (.slice A0_4 l0_4.length c0_4), (.slice A0_5 l0_5.length c0_5)] 25 (0, 0))) ∧ Aside0 (Below w.heap.size w w'))
       case atStart => exact ⟨(([] : List ByteArray)), (0), (by first | rfl | (simp; done) | (simp [*]; done) | exact congrArg Value.bool (nil_ne _) | exact congrArg Value.bool (nil_eq _) | exact congrArg Value.bool (nil_ne' _)), H', ⟨Nat.le_refl _⟩, ⟨by first | exact Kd.R_nil _ _ _ _ _ | exact Kd.N_nil _ _ _ _ _ | exact Kd.V_nil _ _ _ _ _ | exact Kd.Q_nil _ _ _ _ _ | exact Kd.S_nil _ _ _ _ _⟩, ⟨by (with_reducible repeat (first | refine qAf ?_ _ | refine qAh ?_ | refine blk_alloc ?_ _)); exact BK136.out⟩, ⟨by repeat (first | (with_reducible first | exact HB.out | apply qAd | apply qAb | apply qAe | refine qAg ?_ GE136.out) | exact HB.out)⟩⟩
       case round =>
        clear H'
        try clear c1
        try clear c2
        try clear c2b0
        try clear c2b1
        try clear p2
        try clear c4
        try clear c6
        try clear c6b0
        try clear c6b1
        try clear c11
        try clear c11b0
        try clear c11b1
        try clear c19
        try clear c19b0
        try clear c19b1
        try clear c20
        try clear hcz14_0
        try clear hcz14_1
        try clear hcz14_2
        try clear hcz14_3
        try clear hcz14_4
        try clear hcz14_5
        try clear hcz18_0
        try clear hcz18_1
        try clear hcz18_2
        try clear hcz18_3
        try clear hcz18_4
        try clear hcz18_5
        try clear hcz21_0
        try clear hcz21_1
        try clear hcz21_2
        try clear hcz21_3
        try clear hcz21_4
        try clear hcz21_5
        try clear hcz5_0
        try clear hcz5_1
        try clear hcz5_2
        try clear hcz5_3
        try clear hcz5_4
        try clear hcz5_5
        try clear hcz9_0
        try clear hcz9_1
        try clear hcz9_2
        try clear hcz9_3
        try clear hcz9_4
        try clear hcz9_5
        try clear hfz14_0
        try clear hfz14_1
        try clear hfz14_2
        try clear hfz14_3
        try clear hfz14_4
        try clear hfz14_5
        try clear hfz18_0
        try clear hfz18_1
        try clear hfz18_2
        try clear hfz18_3
        try clear hfz18_4
        try clear hfz18_5
        try clear hfz21_0
        try clear hfz21_1
        try clear hfz21_2
        try clear hfz21_3
        try clear hfz21_4
        try clear hfz21_5
        try clear hfz5_0
        try clear hfz5_1
        try clear hfz5_2
        try clear hfz5_3
        try clear hfz5_4
        try clear hfz5_5
        try clear hfz9_0
        try clear hfz9_1
        try clear hfz9_2
        try clear hfz9_3
        try clear hfz9_4
        try clear hfz9_5
        try clear p2
        obtain ⟨x3_2, x31_2, rfl, HA, HK2, HO_3, BK136, HB⟩ := hrel
        cases gk with
        | zero => exact absurd HA.out (by simp [value_text.l0])
        | succ k2 =>
         have H := HA.out
         clear HA
         simp only [value_text.l0] at H
         by_cases c22 : x31_2 < (l0_4.length : Int)
         ·rw [if_pos c22] at H
          have c22b0 : decide (x31_2 < (l0_4.length : Int)) = true := decide_eq_true c22
          clear c22
          by_cases c23 : 0 ≤ x31_2
          ·rw [if_pos c23] at H
           have c23b0 : decide (0 ≤ x31_2) = true := decide_eq_true c23
           clear c23
           by_cases c24 : x31_2 < (l0_4.length : Int)
           ·rw [if_pos c24] at H
            have c24b0 : decide (x31_2 < (l0_4.length : Int)) = true := decide_eq_true c24
            clear c24
            replace H := Option.bind_eq_some_iff.mp H
            obtain ⟨t143, A250, H⟩ := H
            replace H : (if a0_0 = 5 then (if x31_2 < (l0_5.length : Int) then ((value_Quote.f k2 (rdOf ByteArray.empty l0_5 x31_2)).bind fun t145 => (if t145.size + 1 ≤ 9223372036854775807 then (if (t145 ++ (⟨#[58]⟩ : ByteArray)).size + t143.size ≤ 9223372036854775807 then (if x3_2.length < 8796093022208 then (value_text.l0 k2 (x3_2 ++ [(t145 ++ (⟨#[58]⟩ : ByteArray)) ++ t143]) l0_4 (l0_4.length : Int) (wrap64 (x31_2 + 1)) a0_0 a0_1 a0_2 a0_3 l0_4 l0_5) else (none)) else (none)) else (none))) else (none)) else (if x3_2.length < 8796093022208 then (value_text.l0 k2 (x3_2 ++ [t143]) l0_4 (l0_4.length : Int) (wrap64 (x31_2 + 1)) a0_0 a0_1 a0_2 a0_3 l0_4 l0_5) else (none))) = some r := H
            have A25 := Aside0.mk A250
            clear A250
            by_cases c26 : a0_0 = 5
            ·rw [if_pos c26] at H
             have c26b0 : (a0_0 == 5) = true := beq_iff_eq.mpr c26
             have c26b1 : (a0_0 != 5) = false := bne_eq_false_iff_eq.mpr c26
             clear c26
             by_cases c27 : x31_2 < (l0_5.length : Int)
             ·rw [if_pos c27] at H
              have c27b0 : decide (x31_2 < (l0_5.length : Int)) = true := decide_eq_true c27
              clear c27
              replace H := Option.bind_eq_some_iff.mp H
              obtain ⟨t145, A280, H⟩ := H
              replace H : (if t145.size + 1 ≤ 9223372036854775807 then (if (t145 ++ (⟨#[58]⟩ : ByteArray)).size + t143.size ≤ 9223372036854775807 then (if x3_2.length < 8796093022208 then (value_text.l0 k2 (x3_2 ++ [(t145 ++ (⟨#[58]⟩ : ByteArray)) ++ t143]) l0_4 (l0_4.length : Int) (wrap64 (x31_2 + 1)) a0_0 a0_1 a0_2 a0_3 l0_4 l0_5) else (none)) else (none)) else (none)) = some r := H
              have A28 := Aside0.mk A280
              clear A280
              by_cases c29 : t145.size + 1 ≤ 9223372036854775807
              ·rw [if_pos c29] at H
               have c29b0 := eq_true c29
               have c29b1 : decide (t145.size + 1 ≤ 9223372036854775807) = true := decide_eq_true c29
               try have c29b2 : (9223372036854775807 < t145.size + 1) = False := eq_false (Nat.not_lt.2 c29)
               have Sc29 := Aside0.mk c29
               clear c29
               by_cases c30 : (t145 ++ (⟨#[58]⟩ : ByteArray)).size + t143.size ≤ 9223372036854775807
               ·rw [if_pos c30] at H
                have c30b0 := eq_true c30
                have c30b1 : decide ((t145 ++ (⟨#[58]⟩ : ByteArray)).size + t143.size ≤ 9223372036854775807) = true := decide_eq_true c30
                try have c30b2 : (9223372036854775807 < (t145 ++ (⟨#[58]⟩ : ByteArray)).size + t143.size) = False := eq_false (Nat.not_lt.2 c30)
                have Sc30 := Aside0.mk c30
                clear c30
                by_cases c31 : x3_2.length < 8796093022208
                ·rw [if_pos c31] at H
                 have LMc31 := Aside0.mk c31
                 clear c31
                 obtain ⟨y146, hy146⟩ : ∃ y_ : List ByteArray, y_ = (x3_2 ++ [(t145 ++ (⟨#[58]⟩ : ByteArray)) ++ t143]) := ⟨_, rfl⟩
                 replace H : (value_text.l0 k2 y146 l0_4 (l0_4.length : Int) (wrap64 (x31_2 + 1)) a0_0 a0_1 a0_2 a0_3 l0_4 l0_5) = some r := by first | (rw [hy146]; with_reducible exact H) | (have H2_ := (Option.bind_some _ _).symm.trans H; rw [hy146]; with_reducible exact H2_) | (have H2_ := (Option.bind_some _ _).symm.trans H; with_reducible exact H2_) | with_reducible exact H | (rw [hy146]; exact H) | exact H
                 have Ny146 := Aside0.mk hy146
                 clear hy146
                 have H' := Aside0.mk H
                 clear H
                 have p141 : 0 ≤ (x31_2 : Int) := of_decide_eq_true (by first | (with_reducible assumption) | assumption)
                 have q141 : x31_2 < (l0_4.length : Int) := of_decide_eq_true (by first | (with_reducible assumption) | assumption)
                 obtain ⟨ad141, A141_4, c141_4, A141_5, c141_5, e141, hx141_0, hx141_1, hx141_2, hx141_3, hx141_4, hx141_5, hl141_4, hi141_4, hl141_5, hi141_5⟩ := at_T25 HR0_4.out x31_2 p141 q141
                 cases e141
                 replace hx141_0 := (HB.out.cell (World.block_lt_of_cell? w _ hx141_0)).trans hx141_0
                 replace hx141_1 := (HB.out.cell (World.block_lt_of_cell? w _ hx141_1)).trans hx141_1
                 replace hx141_2 := (HB.out.cell (World.block_lt_of_cell? w _ hx141_2)).trans hx141_2
                 replace hx141_3 := (HB.out.cell (World.block_lt_of_cell? w _ hx141_3)).trans hx141_3
                 replace hx141_4 := (HB.out.cell (World.block_lt_of_cell? w _ hx141_4)).trans hx141_4
                 replace hx141_5 := (HB.out.cell (World.block_lt_of_cell? w _ hx141_5)).trans hx141_5
                 have HR141_4 := Aside0.mk hi141_4
                 have HC141_4 := Aside0.mk hl141_4
                 clear hi141_4 hl141_4
                 have HR141_5 := Aside0.mk hi141_5
                 have HC141_5 := Aside0.mk hl141_5
                 clear hi141_5 hl141_5
                 replace p141 := eq_true p141
                 replace q141 := eq_true q141
                 go_wp2_with (first | ((with_reducible refine qA0 (N := 5) rfl ?_); refine qAz ?hg (N := 5) ?hd (cs := #[.int .i64 0, .bool false, .int .i64 0, .string (⟨#[]⟩ : ByteArray), .slice none 0 0, .slice none 0 0]) (t := 25) ?hr ?_; (case hd => rfl); (case hg => rfl); (case hr => first | (go_simp; done) | (go_simp; rfl)); intro gb142 hg w32 hbox hb; have n0_ := Aside0.mk (Kd.R_below (by (with_reducible repeat (first | apply Kd.R_alloc | apply Kd.R_drewN | apply Kd.R_drew)); exact HO_3.out) hb); have n1_ := Aside0.mk (qAk (g := gb136) (o := .cells #[.int .i64 a0_0, .bool a0_1, .int .i64 a0_2, .string a0_3, .slice (some ad141) l0_4.length c0_4, .slice A0_5 l0_5.length c0_5] 25 (0, 0)) (by (with_reducible repeat (first | refine qAf ?_ _ | refine qAh ?_ | refine blk_alloc ?_ _)); exact BK136.out) hb); have n2_ := Aside0.mk (qAi (by repeat (first | (with_reducible first | exact HB.out | apply qAd | apply qAb | apply qAe | refine qAg ?_ GE136.out) | exact HB.out)) hb); have n3_ := Aside0.mk (hbox); have n4_ := Aside0.mk ((by rw [hg]; exact (qAj (by repeat (first | (with_reducible first | exact HB.out | apply qAd | apply qAb | apply qAe | refine qAg ?_ GE136.out) | exact HB.out))) : w.heap.size ≤ gb142)); have n5_ := Aside0.mk ((by rw [hg]; exact (qAj (by repeat (first | (with_reducible first | exact HB.out | apply qAd | apply qAb | apply qAe | refine qAg ?_ GE136.out) | exact HB.out))) : w.heap.size ≤ gb142)); have n6_ := Aside0.mk ((by rw [hg]; exact Nat.ne_of_lt (blk_lt (g := gb136) (o := .cells #[.int .i64 a0_0, .bool a0_1, .int .i64 a0_2, .string a0_3, .slice (some ad141) l0_4.length c0_4, .slice A0_5 l0_5.length c0_5] 25 (0, 0)) (by (with_reducible repeat (first | refine qAf ?_ _ | refine qAh ?_ | refine blk_alloc ?_ _)); exact BK136.out)) : gb136 ≠ gb142)); have n7_ := Aside0.mk ((by rw [hg]; exact Nat.ne_of_gt (blk_lt (g := gb136) (o := .cells #[.int .i64 a0_0, .bool a0_1, .int .i64 a0_2, .string a0_3, .slice (some ad141) l0_4.length c0_4, .slice A0_5 l0_5.length c0_5] 25 (0, 0)) (by (with_reducible repeat (first | refine qAf ?_ _ | refine qAh ?_ | refine blk_alloc ?_ _)); exact BK136.out)) : gb142 ≠ gb136)); clear HO_3; clear BK136; clear HB; have HO_3 := n0_; have BK136 := n1_; have HB := n2_; have BK142 := n3_; have GW142 := n4_; have GE142 := n5_; have NB136_142 := n6_; have NB142_136 := n7_; clear n0_ n1_ n2_ n3_ n4_ n5_ n6_ n7_; clear hb hbox hg; have hnb33 := NB142_136.out; have hnc33 := NB136_142.out; have hcz34_0 : w32.cell? ⟨gb142, 0, none⟩ = some (.int .i64 0) := (qAc BK142.out 0).trans rfl; have hcz34_1 : w32.cell? ⟨gb142, 1, none⟩ = some (.bool false) := (qAc BK142.out 1).trans rfl; have hcz34_2 : w32.cell? ⟨gb142, 2, none⟩ = some (.int .i64 0) := (qAc BK142.out 2).trans rfl; have hcz34_3 : w32.cell? ⟨gb142, 3, none⟩ = some (.string (⟨#[]⟩ : ByteArray)) := (qAc BK142.out 3).trans rfl; have hcz34_4 : w32.cell? ⟨gb142, 4, none⟩ = some (.slice none 0 0) := (qAc BK142.out 4).trans rfl; have hcz34_5 : w32.cell? ⟨gb142, 5, none⟩ = some (.slice none 0 0) := (qAc BK142.out 5).trans rfl; have hfz34_0 := qAa BK142.out 0; have hfz34_1 := qAa BK142.out 1; have hfz34_2 := qAa BK142.out 2; have hfz34_3 := qAa BK142.out 3; have hfz34_4 := qAa BK142.out 4; have hfz34_5 := qAa BK142.out 5) | ((with_reducible refine qAn (f := 47) rfl ?_); refine goesL_ (some 37) rfl rfl Tryd.func47 (by kernel_rfl) rfl #[.agg #[.int .i64 ((rd_T25 l0_4 x31_2).f0), .bool ((rd_T25 l0_4 x31_2).f1), .int .i64 ((rd_T25 l0_4 x31_2).f2), .string ((rd_T25 l0_4 x31_2).f3), .slice A141_4 ((rd_T25 l0_4 x31_2).f4).length c141_4, .slice A141_5 ((rd_T25 l0_4 x31_2).f5).length c141_5]] rfl (by (try simp only [List.map_toArray, List.map_cons, List.map_nil]); first | done | rfl | (simp only [List.length_drop, List.length_take]; rfl)) ?_; (with_reducible refine (ih k2 (by have := HJ15.out; have := HK2.out; omega) ((rd_T25 l0_4 x31_2).f0) ((rd_T25 l0_4 x31_2).f1) ((rd_T25 l0_4 x31_2).f2) ((rd_T25 l0_4 x31_2).f3) _ _ ((rd_T25 l0_4 x31_2).f4) _ _ ((rd_T25 l0_4 x31_2).f5) t143 _ ?side1 ?side2 ?side3 ?side4 ?side5 A25.out).mono ?_); (case side1 => exact ⟨Tabs.below hT.out (by repeat (first | (with_reducible first | exact HB.out | apply qAd | apply qAb | apply qAe | refine qAg ?_ GE136.out | refine qAg ?_ GE142.out) | exact HB.out))⟩); (case side2 => exact Kd.C_below HR141_4.out (by repeat (first | (with_reducible first | exact HB.out | apply qAd | apply qAb | apply qAe | refine qAg ?_ GE136.out | refine qAg ?_ GE142.out) | exact HB.out))); (case side3 => exact HC141_4.out); (case side4 => exact Kd.C_below HR141_5.out (by repeat (first | (with_reducible first | exact HB.out | apply qAd | apply qAb | apply qAe | refine qAg ?_ GE136.out | refine qAg ?_ GE142.out) | exact HB.out))); (case side5 => exact HC141_5.out); rintro e w35 ⟨rfl, hb⟩; refine ⟨_, rfl, ?_⟩; have n0_ := Aside0.mk (Kd.R_below (by (with_reducible repeat (first | apply Kd.R_alloc | apply Kd.R_drewN | apply Kd.R_drew)); exact (Kd.R_mono (Kd.R_far (p := ⟨gb142, 5, none⟩) (Kd.R_far (p := ⟨gb142, 4, none⟩) (Kd.R_far (p := ⟨gb142, 3, none⟩) (Kd.R_far (p := ⟨gb142, 2, none⟩) (Kd.R_far (p := ⟨gb142, 1, none⟩) (Kd.R_far (p := ⟨gb142, 0, none⟩) (Kd.R_types HO_3.out BK142.out (by decide)) (fun _ hk => hk.2) (.int .i64 ((rd_T25 l0_4 x31_2).f0))) (fun _ hk => hk.2) (.bool ((rd_T25 l0_4 x31_2).f1))) (fun _ hk => hk.2) (.int .i64 ((rd_T25 l0_4 x31_2).f2))) (fun _ hk => hk.2) (.string ((rd_T25 l0_4 x31_2).f3))) (fun _ hk => hk.2) (.slice A141_4 ((rd_T25 l0_4 x31_2).f4).length c141_4)) (fun _ hk => hk.2) (.slice A141_5 ((rd_T25 l0_4 x31_2).f5).length c141_5)) (fun _ h_ => h_.1))) hb); have n1_ := Aside0.mk (qAk (g := gb136) (o := .cells #[.int .i64 a0_0, .bool a0_1, .int .i64 a0_2, .string a0_3, .slice (some ad141) l0_4.length c0_4, .slice A0_5 l0_5.length c0_5] 25 (0, 0)) (by (with_reducible repeat (first | refine qAf ?_ _ | refine qAh ?_ | refine blk_alloc ?_ _)); refine qAv ?_ NB136_142.out _; (with_reducible repeat (first | refine qAf ?_ _ | refine qAh ?_ | refine blk_alloc ?_ _)); refine qAv ?_ NB136_142.out _; (with_reducible repeat (first | refine qAf ?_ _ | refine qAh ?_ | refine blk_alloc ?_ _)); refine qAv ?_ NB136_142.out _; (with_reducible repeat (first | refine qAf ?_ _ | refine qAh ?_ | refine blk_alloc ?_ _)); refine qAv ?_ NB136_142.out _; (with_reducible repeat (first | refine qAf ?_ _ | refine qAh ?_ | refine blk_alloc ?_ _)); refine qAv ?_ NB136_142.out _; (with_reducible repeat (first | refine qAf ?_ _ | refine qAh ?_ | refine blk_alloc ?_ _)); refine qAv ?_ NB136_142.out _; (with_reducible repeat (first | refine qAf ?_ _ | refine qAh ?_ | refine blk_alloc ?_ _)); exact BK136.out) hb); have n2_ := Aside0.mk (qAk (g := gb142) (o := .cells #[.int .i64 ((rd_T25 l0_4 x31_2).f0), .bool ((rd_T25 l0_4 x31_2).f1), .int .i64 ((rd_T25 l0_4 x31_2).f2), .string ((rd_T25 l0_4 x31_2).f3), .slice A141_4 ((rd_T25 l0_4 x31_2).f4).length c141_4, .slice A141_5 ((rd_T25 l0_4 x31_2).f5).length c141_5] 25 (0, 0)) (by (with_reducible repeat (first | refine qAf ?_ _ | refine qAh ?_ | refine blk_alloc ?_ _)); refine qAo (cs := #[.int .i64 ((rd_T25 l0_4 x31_2).f0), .bool ((rd_T25 l0_4 x31_2).f1), .int .i64 ((rd_T25 l0_4 x31_2).f2), .string ((rd_T25 l0_4 x31_2).f3), .slice A141_4 ((rd_T25 l0_4 x31_2).f4).length c141_4, .slice none 0 0]) ?_ 5 _ rfl; (with_reducible repeat (first | refine qAf ?_ _ | refine qAh ?_ | refine blk_alloc ?_ _)); refine qAo (cs := #[.int .i64 ((rd_T25 l0_4 x31_2).f0), .bool ((rd_T25 l0_4 x31_2).f1), .int .i64 ((rd_T25 l0_4 x31_2).f2), .string ((rd_T25 l0_4 x31_2).f3), .slice none 0 0, .slice none 0 0]) ?_ 4 _ rfl; (with_reducible repeat (first | refine qAf ?_ _ | refine qAh ?_ | refine blk_alloc ?_ _)); refine qAo (cs := #[.int .i64 ((rd_T25 l0_4 x31_2).f0), .bool ((rd_T25 l0_4 x31_2).f1), .int .i64 ((rd_T25 l0_4 x31_2).f2), .string (⟨#[]⟩ : ByteArray), .slice none 0 0, .slice none 0 0]) ?_ 3 _ rfl; (with_reducible repeat (first | refine qAf ?_ _ | refine qAh ?_ | refine blk_alloc ?_ _)); refine qAo (cs := #[.int .i64 ((rd_T25 l0_4 x31_2).f0), .bool ((rd_T25 l0_4 x31_2).f1), .int .i64 0, .string (⟨#[]⟩ : ByteArray), .slice none 0 0, .slice none 0 0]) ?_ 2 _ rfl; (with_reducible repeat (first | refine qAf ?_ _ | refine qAh ?_ | refine blk_alloc ?_ _)); refine qAo (cs := #[.int .i64 ((rd_T25 l0_4 x31_2).f0), .bool false, .int .i64 0, .string (⟨#[]⟩ : ByteArray), .slice none 0 0, .slice none 0 0]) ?_ 1 _ rfl; (with_reducible repeat (first | refine qAf ?_ _ | refine qAh ?_ | refine blk_alloc ?_ _)); refine qAo (cs := #[.int .i64 0, .bool false, .int .i64 0, .string (⟨#[]⟩ : ByteArray), .slice none 0 0, .slice none 0 0]) ?_ 0 _ rfl; (with_reducible repeat (first | refine qAf ?_ _ | refine qAh ?_ | refine blk_alloc ?_ _)); exact BK142.out) hb); have n3_ := Aside0.mk (qAi (by repeat (first | (with_reducible first | exact HB.out | apply qAd | apply qAb | apply qAe | refine qAg ?_ GE136.out | refine qAg ?_ GE142.out) | exact HB.out)) hb); clear HO_3; clear BK136; clear BK142; clear HB; have HO_3 := n0_; have BK136 := n1_; have BK142 := n2_; have HB := n3_; clear n0_ n1_ n2_ n3_; (try clear hb); (try clear hb2); (try clear hk); (try clear hi); have hcz36_0 : w35.cell? ⟨gb136, 0, none⟩ = some (.int .i64 a0_0) := (qAc BK136.out 0).trans rfl; have hcz36_1 : w35.cell? ⟨gb136, 1, none⟩ = some (.bool a0_1) := (qAc BK136.out 1).trans rfl; have hcz36_2 : w35.cell? ⟨gb136, 2, none⟩ = some (.int .i64 a0_2) := (qAc BK136.out 2).trans rfl; have hcz36_3 : w35.cell? ⟨gb136, 3, none⟩ = some (.string a0_3) := (qAc BK136.out 3).trans rfl; have hcz36_4 : w35.cell? ⟨gb136, 4, none⟩ = some (.slice (some ad141) l0_4.length c0_4) := (qAc BK136.out 4).trans rfl; have hcz36_5 : w35.cell? ⟨gb136, 5, none⟩ = some (.slice A0_5 l0_5.length c0_5) := (qAc BK136.out 5).trans rfl; have hfz36_0 := qAa BK136.out 0; have hfz36_1 := qAa BK136.out 1; have hfz36_2 := qAa BK136.out 2; have hfz36_3 := qAa BK136.out 3; have hfz36_4 := qAa BK136.out 4; have hfz36_5 := qAa BK136.out 5; have p144 : 0 ≤ (x31_2 : Int) := of_decide_eq_true (by first | (with_reducible assumption) | assumption); have q144 : x31_2 < (l0_5.length : Int) := of_decide_eq_true (by first | (with_reducible assumption) | assumption); obtain ⟨ad144, e144, hx144_0⟩ := Kd.at_string HR0_5.out x31_2 p144 q144; cases e144; replace hx144_0 := (HB.out.cell (World.block_lt_of_cell? w _ hx144_0)).trans hx144_0; replace p144 := eq_true p144; replace q144 := eq_true q144) | ((with_reducible refine qAn (f := 26) rfl ?_); refine goesL_ (some 46) rfl rfl Tryd.func26 (by kernel_rfl) rfl #[.string (rdOf ByteArray.empty l0_5 x31_2)] rfl (by (try simp only [List.map_toArray, List.map_cons, List.map_nil]); first | done | rfl | (simp only [List.length_drop, List.length_take]; rfl)) ?_; (with_reducible refine (value_Quote.calls k2 (rdOf ByteArray.empty l0_5 x31_2) t145 _ A28.out).mono ?_); rintro e w37 ⟨rfl, hb⟩; refine ⟨_, rfl, ?_⟩; have n0_ := Aside0.mk (Kd.R_below (by (with_reducible repeat (first | apply Kd.R_alloc | apply Kd.R_drewN | apply Kd.R_drew)); exact HO_3.out) hb); have n1_ := Aside0.mk (qAk (g := gb136) (o := .cells #[.int .i64 a0_0, .bool a0_1, .int .i64 a0_2, .string a0_3, .slice (some ad141) l0_4.length c0_4, .slice (some ad144) l0_5.length c0_5] 25 (0, 0)) (by (with_reducible repeat (first | refine qAf ?_ _ | refine qAh ?_ | refine blk_alloc ?_ _)); exact BK136.out) hb); have n2_ := Aside0.mk (qAk (g := gb142) (o := .cells #[.int .i64 ((rd_T25 l0_4 x31_2).f0), .bool ((rd_T25 l0_4 x31_2).f1), .int .i64 ((rd_T25 l0_4 x31_2).f2), .string ((rd_T25 l0_4 x31_2).f3), .slice A141_4 ((rd_T25 l0_4 x31_2).f4).length c141_4, .slice A141_5 ((rd_T25 l0_4 x31_2).f5).length c141_5] 25 (0, 0)) (by (with_reducible repeat (first | refine qAf ?_ _ | refine qAh ?_ | refine blk_alloc ?_ _)); exact BK142.out) hb); have n3_ := Aside0.mk (qAi (by repeat (first | (with_reducible first | exact HB.out | apply qAd | apply qAb | apply qAe | refine qAg ?_ GE136.out | refine qAg ?_ GE142.out) | exact HB.out)) hb); clear HO_3; clear BK136; clear BK142; clear HB; have HO_3 := n0_; have BK136 := n1_; have BK142 := n2_; have HB := n3_; clear n0_ n1_ n2_ n3_; (try clear hb); (try clear hb2); (try clear hk); (try clear hi)) | ((with_reducible refine qAw (b := .append) (xs := #[.tmp 50, .tmp 52]) rfl ?_); at_builtin; refine Kd.R_append Kd.string (w0 := w) w.heap.size rfl (.tmp 50) (.tmp 52) 23 9 (.string ⟨#[]⟩) 16 rfl Tryd.underlying23 info9 rfl (by decide) (by omega) u3 x3_2 ((t145 ++ (⟨#[58]⟩ : ByteArray)) ++ t143) [.string ((t145 ++ (⟨#[58]⟩ : ByteArray)) ++ t143)] (fun _ => True) (fun _ => False) rfl rfl ?aP (fun _ hk => hk.elim) ?aF ?aO ?aB ?aS ?aL ?_; (case aP => exact rfl); (case aB => exact (by repeat (first | (with_reducible first | exact HB.out | apply qAd | apply qAb | apply qAe | refine qAg ?_ GE136.out | refine qAg ?_ GE142.out) | exact HB.out))); (case aF => exact (fun _ _ => trivial)); (case aO => exact (by (with_reducible repeat (first | apply Kd.R_alloc | apply Kd.R_drewN | apply Kd.R_drew)); exact HO_3.out)); (case aS => exact (qAj (by repeat (first | (with_reducible first | exact HB.out | apply qAd | apply qAb | apply qAe | refine qAg ?_ GE136.out | refine qAg ?_ GE142.out) | exact HB.out)))); (case aL => have := LMc31.out; omega); intro v147 w38 ho hb hg hat; rw [← Ny146.out] at ho; have n0_ := Aside0.mk (qBt (g := gb136) (o := .cells #[.int .i64 a0_0, .bool a0_1, .int .i64 a0_2, .string a0_3, .slice (some ad141) l0_4.length c0_4, .slice (some ad144) l0_5.length c0_5] 25 (0, 0)) (by (with_reducible repeat (first | refine qAf ?_ _ | refine qAh ?_ | refine blk_alloc ?_ _)); exact BK136.out) hg (Kd.R_ne HO_3.out BK136.out (by decide))); have n1_ := Aside0.mk (qBt (g := gb142) (o := .cells #[.int .i64 ((rd_T25 l0_4 x31_2).f0), .bool ((rd_T25 l0_4 x31_2).f1), .int .i64 ((rd_T25 l0_4 x31_2).f2), .string ((rd_T25 l0_4 x31_2).f3), .slice A141_4 ((rd_T25 l0_4 x31_2).f4).length c141_4, .slice A141_5 ((rd_T25 l0_4 x31_2).f5).length c141_5] 25 (0, 0)) (by (with_reducible repeat (first | refine qAf ?_ _ | refine qAh ?_ | refine blk_alloc ?_ _)); exact BK142.out) hg (Kd.R_ne HO_3.out BK142.out (by decide))); have n2_ := Aside0.mk (hb); have n3_ := Aside0.mk (ho); clear BK136; clear BK142; clear HB; clear HO_3; have BK136 := n0_; have BK142 := n1_; have HB := n2_; have HO148 := n3_; clear n0_ n1_ n2_ n3_; clear ho hb hg hat))
                 try any_goals (exfalso; have h_ := Sc29.out; rename_i hb_; (try simp only [ByteArray.size_extract, ByteArray.size_append] at h_ hb_); (try simp only [ByteArray.size, List.size_toArray, List.length_cons, List.length_nil] at h_ hb_); omega)
                 try any_goals (exfalso; have h_ := Sc30.out; rename_i hb_; (try simp only [ByteArray.size_extract, ByteArray.size_append] at h_ hb_); (try simp only [ByteArray.size, List.size_toArray, List.length_cons, List.length_nil] at h_ hb_); omega)
                 go_roundg k2
                 case measure => have := HJ15.out; have := HK2.out; omega
                 case rel => exact ⟨(y146), (wrap64 (x31_2 + 1)), (by first | rfl | (simp; done) | (simp [*]; done) | exact congrArg Value.bool (nil_ne _) | exact congrArg Value.bool (nil_eq _) | exact congrArg Value.bool (nil_ne' _)), H', ⟨by have := HJ15.out; have := HK2.out; omega⟩, ⟨by (with_reducible repeat (first | apply Kd.R_alloc | apply Kd.R_drewN | apply Kd.R_drew)); exact HO148.out⟩, ⟨by (with_reducible repeat (first | refine qAf ?_ _ | refine qAh ?_ | refine blk_alloc ?_ _)); exact BK136.out⟩, ⟨by repeat (first | (with_reducible first | exact HB.out | apply qAd | apply qAb | apply qAe | refine qAg ?_ GE136.out | refine qAg ?_ GE142.out) | exact HB.out)⟩⟩
                ·rw [if_neg c31] at H
                 exact absurd H (by simp)
               ·rw [if_neg c30] at H
                exact absurd H (by simp)
              ·rw [if_neg c29] at H
               exact absurd H (by simp)
             ·rw [if_neg c27] at H
              exact absurd H (by simp)
            ·rw [if_neg c26] at H
             have c26b0 : (a0_0 == 5) = false := beq_eq_false_iff_ne.mpr c26
             have c26b1 : (a0_0 != 5) = true := bne_iff_ne.mpr c26
             by_cases c39 : x3_2.length < 8796093022208
             ·rw [if_pos c39] at H
              have LMc39 := Aside0.mk c39
              clear c39
              obtain ⟨y149, hy149⟩ : ∃ y_ : List ByteArray, y_ = (x3_2 ++ [t143]) := ⟨_, rfl⟩
              replace H : (value_text.l0 k2 y149 l0_4 (l0_4.length : Int) (wrap64 (x31_2 + 1)) a0_0 a0_1 a0_2 a0_3 l0_4 l0_5) = some r := by first | (rw [hy149]; with_reducible exact H) | (have H2_ := (Option.bind_some _ _).symm.trans H; rw [hy149]; with_reducible exact H2_) | (have H2_ := (Option.bind_some _ _).symm.trans H; with_reducible exact H2_) | with_reducible exact H | (rw [hy149]; exact H) | exact H
              have Ny149 := Aside0.mk hy149
              clear hy149
              have H' := Aside0.mk H
              clear H
              have p141 : 0 ≤ (x31_2 : Int) := of_decide_eq_true (by first | (with_reducible assumption) | assumption)
              have q141 : x31_2 < (l0_4.length : Int) := of_decide_eq_true (by first | (with_reducible assumption) | assumption)
              obtain ⟨ad141, A141_4, c141_4, A141_5, c141_5, e141, hx141_0, hx141_1, hx141_2, hx141_3, hx141_4, hx141_5, hl141_4, hi141_4, hl141_5, hi141_5⟩ := at_T25 HR0_4.out x31_2 p141 q141
              cases e141
              replace hx141_0 := (HB.out.cell (World.block_lt_of_cell? w _ hx141_0)).trans hx141_0
              replace hx141_1 := (HB.out.cell (World.block_lt_of_cell? w _ hx141_1)).trans hx141_1
              replace hx141_2 := (HB.out.cell (World.block_lt_of_cell? w _ hx141_2)).trans hx141_2
              replace hx141_3 := (HB.out.cell (World.block_lt_of_cell? w _ hx141_3)).trans hx141_3
              replace hx141_4 := (HB.out.cell (World.block_lt_of_cell? w _ hx141_4)).trans hx141_4
              replace hx141_5 := (HB.out.cell (World.block_lt_of_cell? w _ hx141_5)).trans hx141_5
              have HR141_4 := Aside0.mk hi141_4
              have HC141_4 := Aside0.mk hl141_4
              clear hi141_4 hl141_4
              have HR141_5 := Aside0.mk hi141_5
              have HC141_5 := Aside0.mk hl141_5
              clear hi141_5 hl141_5
              replace p141 := eq_true p141
              replace q141 := eq_true q141
              go_wp2_with (first | ((with_reducible refine qA0 (N := 5) rfl ?_); refine qAz ?hg (N := 5) ?hd (cs := #[.int .i64 0, .bool false, .int .i64 0, .string (⟨#[]⟩ : ByteArray), .slice none 0 0, .slice none 0 0]) (t := 25) ?hr ?_; (case hd => rfl); (case hg => rfl); (case hr => first | (go_simp; done) | (go_simp; rfl)); intro gb142 hg w40 hbox hb; have n0_ := Aside0.mk (Kd.R_below (by (with_reducible repeat (first | apply Kd.R_alloc | apply Kd.R_drewN | apply Kd.R_drew)); exact HO_3.out) hb); have n1_ := Aside0.mk (qAk (g := gb136) (o := .cells #[.int .i64 a0_0, .bool a0_1, .int .i64 a0_2, .string a0_3, .slice (some ad141) l0_4.length c0_4, .slice A0_5 l0_5.length c0_5] 25 (0, 0)) (by (with_reducible repeat (first | refine qAf ?_ _ | refine qAh ?_ | refine blk_alloc ?_ _)); exact BK136.out) hb); have n2_ := Aside0.mk (qAi (by repeat (first | (with_reducible first | exact HB.out | apply qAd | apply qAb | apply qAe | refine qAg ?_ GE136.out) | exact HB.out)) hb); have n3_ := Aside0.mk (hbox); have n4_ := Aside0.mk ((by rw [hg]; exact (qAj (by repeat (first | (with_reducible first | exact HB.out | apply qAd | apply qAb | apply qAe | refine qAg ?_ GE136.out) | exact HB.out))) : w.heap.size ≤ gb142)); have n5_ := Aside0.mk ((by rw [hg]; exact (qAj (by repeat (first | (with_reducible first | exact HB.out | apply qAd | apply qAb | apply qAe | refine qAg ?_ GE136.out) | exact HB.out))) : w.heap.size ≤ gb142)); have n6_ := Aside0.mk ((by rw [hg]; exact Nat.ne_of_lt (blk_lt (g := gb136) (o := .cells #[.int .i64 a0_0, .bool a0_1, .int .i64 a0_2, .string a0_3, .slice (some ad141) l0_4.length c0_4, .slice A0_5 l0_5.length c0_5] 25 (0, 0)) (by (with_reducible repeat (first | refine qAf ?_ _ | refine qAh ?_ | refine blk_alloc ?_ _)); exact BK136.out)) : gb136 ≠ gb142)); have n7_ := Aside0.mk ((by rw [hg]; exact Nat.ne_of_gt (blk_lt (g := gb136) (o := .cells #[.int .i64 a0_0, .bool a0_1, .int .i64 a0_2, .string a0_3, .slice (some ad141) l0_4.length c0_4, .slice A0_5 l0_5.length c0_5] 25 (0, 0)) (by (with_reducible repeat (first | refine qAf ?_ _ | refine qAh ?_ | refine blk_alloc ?_ _)); exact BK136.out)) : gb142 ≠ gb136)); clear HO_3; clear BK136; clear HB; have HO_3 := n0_; have BK136 := n1_; have HB := n2_; have BK142 := n3_; have GW142 := n4_; have GE142 := n5_; have NB136_142 := n6_; have NB142_136 := n7_; clear n0_ n1_ n2_ n3_ n4_ n5_ n6_ n7_; clear hb hbox hg; have hnb41 := NB142_136.out; have hnc41 := NB136_142.out; have hcz42_0 : w40.cell? ⟨gb142, 0, none⟩ = some (.int .i64 0) := (qAc BK142.out 0).trans rfl; have hcz42_1 : w40.cell? ⟨gb142, 1, none⟩ = some (.bool false) := (qAc BK142.out 1).trans rfl; have hcz42_2 : w40.cell? ⟨gb142, 2, none⟩ = some (.int .i64 0) := (qAc BK142.out 2).trans rfl; have hcz42_3 : w40.cell? ⟨gb142, 3, none⟩ = some (.string (⟨#[]⟩ : ByteArray)) := (qAc BK142.out 3).trans rfl; have hcz42_4 : w40.cell? ⟨gb142, 4, none⟩ = some (.slice none 0 0) := (qAc BK142.out 4).trans rfl; have hcz42_5 : w40.cell? ⟨gb142, 5, none⟩ = some (.slice none 0 0) := (qAc BK142.out 5).trans rfl; have hfz42_0 := qAa BK142.out 0; have hfz42_1 := qAa BK142.out 1; have hfz42_2 := qAa BK142.out 2; have hfz42_3 := qAa BK142.out 3; have hfz42_4 := qAa BK142.out 4; have hfz42_5 := qAa BK142.out 5) | ((with_reducible refine qAn (f := 47) rfl ?_); refine goesL_ (some 37) rfl rfl Tryd.func47 (by kernel_rfl) rfl #[.agg #[.int .i64 ((rd_T25 l0_4 x31_2).f0), .bool ((rd_T25 l0_4 x31_2).f1), .int .i64 ((rd_T25 l0_4 x31_2).f2), .string ((rd_T25 l0_4 x31_2).f3), .slice A141_4 ((rd_T25 l0_4 x31_2).f4).length c141_4, .slice A141_5 ((rd_T25 l0_4 x31_2).f5).length c141_5]] rfl (by (try simp only [List.map_toArray, List.map_cons, List.map_nil]); first | done | rfl | (simp only [List.length_drop, List.length_take]; rfl)) ?_; (with_reducible refine (ih k2 (by have := HJ15.out; have := HK2.out; omega) ((rd_T25 l0_4 x31_2).f0) ((rd_T25 l0_4 x31_2).f1) ((rd_T25 l0_4 x31_2).f2) ((rd_T25 l0_4 x31_2).f3) _ _ ((rd_T25 l0_4 x31_2).f4) _ _ ((rd_T25 l0_4 x31_2).f5) t143 _ ?side1 ?side2 ?side3 ?side4 ?side5 A25.out).mono ?_); (case side1 => exact ⟨Tabs.below hT.out (by repeat (first | (with_reducible first | exact HB.out | apply qAd | apply qAb | apply qAe | refine qAg ?_ GE136.out | refine qAg ?_ GE142.out) | exact HB.out))⟩); (case side2 => exact Kd.C_below HR141_4.out (by repeat (first | (with_reducible first | exact HB.out | apply qAd | apply qAb | apply qAe | refine qAg ?_ GE136.out | refine qAg ?_ GE142.out) | exact HB.out))); (case side3 => exact HC141_4.out); (case side4 => exact Kd.C_below HR141_5.out (by repeat (first | (with_reducible first | exact HB.out | apply qAd | apply qAb | apply qAe | refine qAg ?_ GE136.out | refine qAg ?_ GE142.out) | exact HB.out))); (case side5 => exact HC141_5.out); rintro e w43 ⟨rfl, hb⟩; refine ⟨_, rfl, ?_⟩; have n0_ := Aside0.mk (Kd.R_below (by (with_reducible repeat (first | apply Kd.R_alloc | apply Kd.R_drewN | apply Kd.R_drew)); exact (Kd.R_mono (Kd.R_far (p := ⟨gb142, 5, none⟩) (Kd.R_far (p := ⟨gb142, 4, none⟩) (Kd.R_far (p := ⟨gb142, 3, none⟩) (Kd.R_far (p := ⟨gb142, 2, none⟩) (Kd.R_far (p := ⟨gb142, 1, none⟩) (Kd.R_far (p := ⟨gb142, 0, none⟩) (Kd.R_types HO_3.out BK142.out (by decide)) (fun _ hk => hk.2) (.int .i64 ((rd_T25 l0_4 x31_2).f0))) (fun _ hk => hk.2) (.bool ((rd_T25 l0_4 x31_2).f1))) (fun _ hk => hk.2) (.int .i64 ((rd_T25 l0_4 x31_2).f2))) (fun _ hk => hk.2) (.string ((rd_T25 l0_4 x31_2).f3))) (fun _ hk => hk.2) (.slice A141_4 ((rd_T25 l0_4 x31_2).f4).length c141_4)) (fun _ hk => hk.2) (.slice A141_5 ((rd_T25 l0_4 x31_2).f5).length c141_5)) (fun _ h_ => h_.1))) hb); have n1_ := Aside0.mk (qAk (g := gb136) (o := .cells #[.int .i64 a0_0, .bool a0_1, .int .i64 a0_2, .string a0_3, .slice (some ad141) l0_4.length c0_4, .slice A0_5 l0_5.length c0_5] 25 (0, 0)) (by (with_reducible repeat (first | refine qAf ?_ _ | refine qAh ?_ | refine blk_alloc ?_ _)); refine qAv ?_ NB136_142.out _; (with_reducible repeat (first | refine qAf ?_ _ | refine qAh ?_ | refine blk_alloc ?_ _)); refine qAv ?_ NB136_142.out _; (with_reducible repeat (first | refine qAf ?_ _ | refine qAh ?_ | refine blk_alloc ?_ _)); refine qAv ?_ NB136_142.out _; (with_reducible repeat (first | refine qAf ?_ _ | refine qAh ?_ | refine blk_alloc ?_ _)); refine qAv ?_ NB136_142.out _; (with_reducible repeat (first | refine qAf ?_ _ | refine qAh ?_ | refine blk_alloc ?_ _)); refine qAv ?_ NB136_142.out _; (with_reducible repeat (first | refine qAf ?_ _ | refine qAh ?_ | refine blk_alloc ?_ _)); refine qAv ?_ NB136_142.out _; (with_reducible repeat (first | refine qAf ?_ _ | refine qAh ?_ | refine blk_alloc ?_ _)); exact BK136.out) hb); have n2_ := Aside0.mk (qAk (g := gb142) (o := .cells #[.int .i64 ((rd_T25 l0_4 x31_2).f0), .bool ((rd_T25 l0_4 x31_2).f1), .int .i64 ((rd_T25 l0_4 x31_2).f2), .string ((rd_T25 l0_4 x31_2).f3), .slice A141_4 ((rd_T25 l0_4 x31_2).f4).length c141_4, .slice A141_5 ((rd_T25 l0_4 x31_2).f5).length c141_5] 25 (0, 0)) (by (with_reducible repeat (first | refine qAf ?_ _ | refine qAh ?_ | refine blk_alloc ?_ _)); refine qAo (cs := #[.int .i64 ((rd_T25 l0_4 x31_2).f0), .bool ((rd_T25 l0_4 x31_2).f1), .int .i64 ((rd_T25 l0_4 x31_2).f2), .string ((rd_T25 l0_4 x31_2).f3), .slice A141_4 ((rd_T25 l0_4 x31_2).f4).length c141_4, .slice none 0 0]) ?_ 5 _ rfl; (with_reducible repeat (first | refine qAf ?_ _ | refine qAh ?_ | refine blk_alloc ?_ _)); refine qAo (cs := #[.int .i64 ((rd_T25 l0_4 x31_2).f0), .bool ((rd_T25 l0_4 x31_2).f1), .int .i64 ((rd_T25 l0_4 x31_2).f2), .string ((rd_T25 l0_4 x31_2).f3), .slice none 0 0, .slice none 0 0]) ?_ 4 _ rfl; (with_reducible repeat (first | refine qAf ?_ _ | refine qAh ?_ | refine blk_alloc ?_ _)); refine qAo (cs := #[.int .i64 ((rd_T25 l0_4 x31_2).f0), .bool ((rd_T25 l0_4 x31_2).f1), .int .i64 ((rd_T25 l0_4 x31_2).f2), .string (⟨#[]⟩ : ByteArray), .slice none 0 0, .slice none 0 0]) ?_ 3 _ rfl; (with_reducible repeat (first | refine qAf ?_ _ | refine qAh ?_ | refine blk_alloc ?_ _)); refine qAo (cs := #[.int .i64 ((rd_T25 l0_4 x31_2).f0), .bool ((rd_T25 l0_4 x31_2).f1), .int .i64 0, .string (⟨#[]⟩ : ByteArray), .slice none 0 0, .slice none 0 0]) ?_ 2 _ rfl; (with_reducible repeat (first | refine qAf ?_ _ | refine qAh ?_ | refine blk_alloc ?_ _)); refine qAo (cs := #[.int .i64 ((rd_T25 l0_4 x31_2).f0), .bool false, .int .i64 0, .string (⟨#[]⟩ : ByteArray), .slice none 0 0, .slice none 0 0]) ?_ 1 _ rfl; (with_reducible repeat (first | refine qAf ?_ _ | refine qAh ?_ | refine blk_alloc ?_ _)); refine qAo (cs := #[.int .i64 0, .bool false, .int .i64 0, .string (⟨#[]⟩ : ByteArray), .slice none 0 0, .slice none 0 0]) ?_ 0 _ rfl; (with_reducible repeat (first | refine qAf ?_ _ | refine qAh ?_ | refine blk_alloc ?_ _)); exact BK142.out) hb); have n3_ := Aside0.mk (qAi (by repeat (first | (with_reducible first | exact HB.out | apply qAd | apply qAb | apply qAe | refine qAg ?_ GE136.out | refine qAg ?_ GE142.out) | exact HB.out)) hb); clear HO_3; clear BK136; clear BK142; clear HB; have HO_3 := n0_; have BK136 := n1_; have BK142 := n2_; have HB := n3_; clear n0_ n1_ n2_ n3_; (try clear hb); (try clear hb2); (try clear hk); (try clear hi); have hcz44_0 : w43.cell? ⟨gb136, 0, none⟩ = some (.int .i64 a0_0) := (qAc BK136.out 0).trans rfl; have hcz44_1 : w43.cell? ⟨gb136, 1, none⟩ = some (.bool a0_1) := (qAc BK136.out 1).trans rfl; have hcz44_2 : w43.cell? ⟨gb136, 2, none⟩ = some (.int .i64 a0_2) := (qAc BK136.out 2).trans rfl; have hcz44_3 : w43.cell? ⟨gb136, 3, none⟩ = some (.string a0_3) := (qAc BK136.out 3).trans rfl; have hcz44_4 : w43.cell? ⟨gb136, 4, none⟩ = some (.slice (some ad141) l0_4.length c0_4) := (qAc BK136.out 4).trans rfl; have hcz44_5 : w43.cell? ⟨gb136, 5, none⟩ = some (.slice A0_5 l0_5.length c0_5) := (qAc BK136.out 5).trans rfl; have hfz44_0 := qAa BK136.out 0; have hfz44_1 := qAa BK136.out 1; have hfz44_2 := qAa BK136.out 2; have hfz44_3 := qAa BK136.out 3; have hfz44_4 := qAa BK136.out 4; have hfz44_5 := qAa BK136.out 5) | ((with_reducible refine qAw (b := .append) (xs := #[.tmp 50, .tmp 52]) rfl ?_); at_builtin; refine Kd.R_append Kd.string (w0 := w) w.heap.size rfl (.tmp 50) (.tmp 52) 23 9 (.string ⟨#[]⟩) 16 rfl Tryd.underlying23 info9 rfl (by decide) (by omega) u3 x3_2 t143 [.string t143] (fun _ => True) (fun _ => False) rfl rfl ?aP (fun _ hk => hk.elim) ?aF ?aO ?aB ?aS ?aL ?_; (case aP => exact rfl); (case aB => exact (by repeat (first | (with_reducible first | exact HB.out | apply qAd | apply qAb | apply qAe | refine qAg ?_ GE136.out | refine qAg ?_ GE142.out) | exact HB.out))); (case aF => exact (fun _ _ => trivial)); (case aO => exact (by (with_reducible repeat (first | apply Kd.R_alloc | apply Kd.R_drewN | apply Kd.R_drew)); exact HO_3.out)); (case aS => exact (qAj (by repeat (first | (with_reducible first | exact HB.out | apply qAd | apply qAb | apply qAe | refine qAg ?_ GE136.out | refine qAg ?_ GE142.out) | exact HB.out)))); (case aL => have := LMc39.out; omega); intro v150 w45 ho hb hg hat; rw [← Ny149.out] at ho; have n0_ := Aside0.mk (qBt (g := gb136) (o := .cells #[.int .i64 a0_0, .bool a0_1, .int .i64 a0_2, .string a0_3, .slice (some ad141) l0_4.length c0_4, .slice A0_5 l0_5.length c0_5] 25 (0, 0)) (by (with_reducible repeat (first | refine qAf ?_ _ | refine qAh ?_ | refine blk_alloc ?_ _)); exact BK136.out) hg (Kd.R_ne HO_3.out BK136.out (by decide))); have n1_ := Aside0.mk (qBt (g := gb142) (o := .cells #[.int .i64 ((rd_T25 l0_4 x31_2).f0), .bool ((rd_T25 l0_4 x31_2).f1), .int .i64 ((rd_T25 l0_4 x31_2).f2), .string ((rd_T25 l0_4 x31_2).f3), .slice A141_4 ((rd_T25 l0_4 x31_2).f4).length c141_4, .slice A141_5 ((rd_T25 l0_4 x31_2).f5).length c141_5] 25 (0, 0)) (by (with_reducible repeat (first | refine qAf ?_ _ | refine qAh ?_ | refine blk_alloc ?_ _)); exact BK142.out) hg (Kd.R_ne HO_3.out BK142.out (by decide))); have n2_ := Aside0.mk (hb); have n3_ := Aside0.mk (ho); clear BK136; clear BK142; clear HB; clear HO_3; have BK136 := n0_; have BK142 := n1_; have HB := n2_; have HO151 := n3_; clear n0_ n1_ n2_ n3_; clear ho hb hg hat))
              go_roundg k2
              case measure => have := HJ15.out; have := HK2.out; omega
              case rel => exact ⟨(y149), (wrap64 (x31_2 + 1)), (by first | rfl | (simp; done) | (simp [*]; done) | exact congrArg Value.bool (nil_ne _) | exact congrArg Value.bool (nil_eq _) | exact congrArg Value.bool (nil_ne' _)), H', ⟨by have := HJ15.out; have := HK2.out; omega⟩, ⟨by (with_reducible repeat (first | apply Kd.R_alloc | apply Kd.R_drewN | apply Kd.R_drew)); exact HO151.out⟩, ⟨by (with_reducible repeat (first | refine qAf ?_ _ | refine qAh ?_ | refine blk_alloc ?_ _)); exact BK136.out⟩, ⟨by repeat (first | (with_reducible first | exact HB.out | apply qAd | apply qAb | apply qAe | refine qAg ?_ GE136.out | refine qAg ?_ GE142.out) | exact HB.out)⟩⟩
             ·rw [if_neg c39] at H
              exact absurd H (by simp)
           ·rw [if_neg c24] at H
            exact absurd H (by simp)
          ·rw [if_neg c23] at H
           exact absurd H (by simp)
         ·rw [if_neg c22] at H
          have c22b0 : decide (x31_2 < (l0_4.length : Int)) = false := decide_eq_false c22
          clear c22
          replace H := Option.bind_eq_some_iff.mp H
          obtain ⟨t140, A460, H⟩ := H
          replace H : (if a0_0 = 5 then (if 1 + t140.size ≤ 9223372036854775807 then (if ((⟨#[123]⟩ : ByteArray) ++ t140).size + 1 ≤ 9223372036854775807 then (some (((⟨#[123]⟩ : ByteArray) ++ t140) ++ (⟨#[125]⟩ : ByteArray))) else (none)) else (none)) else (if 1 + t140.size ≤ 9223372036854775807 then (if ((⟨#[91]⟩ : ByteArray) ++ t140).size + 1 ≤ 9223372036854775807 then (some (((⟨#[91]⟩ : ByteArray) ++ t140) ++ (⟨#[93]⟩ : ByteArray))) else (none)) else (none))) = some r := H
          have A46 := Aside0.mk A460
          clear A460
          by_cases c47 : a0_0 = 5
          ·rw [if_pos c47] at H
           have c47b0 : (a0_0 == 5) = true := beq_iff_eq.mpr c47
           have c47b1 : (a0_0 != 5) = false := bne_eq_false_iff_eq.mpr c47
           clear c47
           by_cases c48 : 1 + t140.size ≤ 9223372036854775807
           ·rw [if_pos c48] at H
            have c48b0 := eq_true c48
            have c48b1 : decide (1 + t140.size ≤ 9223372036854775807) = true := decide_eq_true c48
            try have c48b2 : (9223372036854775807 < 1 + t140.size) = False := eq_false (Nat.not_lt.2 c48)
            have Sc48 := Aside0.mk c48
            clear c48
            by_cases c49 : ((⟨#[123]⟩ : ByteArray) ++ t140).size + 1 ≤ 9223372036854775807
            ·rw [if_pos c49] at H
             have c49b0 := eq_true c49
             have c49b1 : decide (((⟨#[123]⟩ : ByteArray) ++ t140).size + 1 ≤ 9223372036854775807) = true := decide_eq_true c49
             try have c49b2 : (9223372036854775807 < ((⟨#[123]⟩ : ByteArray) ++ t140).size + 1) = False := eq_false (Nat.not_lt.2 c49)
             have Sc49 := Aside0.mk c49
             clear c49
             obtain rfl := Option.some.inj H
             obtain ⟨Ao50, co50, eo50⟩ := Kd.R_slice HO_3.out
             subst eo50
             go_wp2_with (first | ((with_reducible refine qAn (f := 68) rfl ?_); refine goesL_ (some 56) rfl rfl Tryd.func68 (by kernel_rfl) rfl #[.slice Ao50 x3_2.length co50, .string (⟨#[44]⟩ : ByteArray)] rfl (by (try simp only [List.map_toArray, List.map_cons, List.map_nil]); first | done | rfl | (simp only [List.length_drop, List.length_take]; rfl)) ?_; (with_reducible refine (strings_Join.calls _ _ x3_2 (⟨#[44]⟩ : ByteArray) t140 _ ?side1 ?side2 A46.out).mono ?_); (case side1 => repeat (first | exact (Kd.R_reads' HO_3.out).2.2 | (with_reducible refine Kd.C_alloc ?_ _) | (with_reducible refine Kd.C_drewN ?_ _) | (with_reducible refine Kd.C_drew ?_))); (case side2 => exact (Kd.R_reads' HO_3.out).2.1); rintro e w51 ⟨rfl, hb⟩; refine ⟨_, rfl, ?_⟩; have n0_ := Aside0.mk (Kd.R_below (by (with_reducible repeat (first | apply Kd.R_alloc | apply Kd.R_drewN | apply Kd.R_drew)); exact HO_3.out) hb); have n1_ := Aside0.mk (qAk (g := gb136) (o := .cells #[.int .i64 a0_0, .bool a0_1, .int .i64 a0_2, .string a0_3, .slice A0_4 l0_4.length c0_4, .slice A0_5 l0_5.length c0_5] 25 (0, 0)) (by (with_reducible repeat (first | refine qAf ?_ _ | refine qAh ?_ | refine blk_alloc ?_ _)); exact BK136.out) hb); have n2_ := Aside0.mk (qAi (by repeat (first | (with_reducible first | exact HB.out | apply qAd | apply qAb | apply qAe | refine qAg ?_ GE136.out) | exact HB.out)) hb); clear HO_3; clear BK136; clear HB; have HO_3 := n0_; have BK136 := n1_; have HB := n2_; clear n0_ n1_ n2_; (try clear hb); (try clear hb2); (try clear hk); (try clear hi); have hcz52_0 : w51.cell? ⟨gb136, 0, none⟩ = some (.int .i64 a0_0) := (qAc BK136.out 0).trans rfl; have hcz52_1 : w51.cell? ⟨gb136, 1, none⟩ = some (.bool a0_1) := (qAc BK136.out 1).trans rfl; have hcz52_2 : w51.cell? ⟨gb136, 2, none⟩ = some (.int .i64 a0_2) := (qAc BK136.out 2).trans rfl; have hcz52_3 : w51.cell? ⟨gb136, 3, none⟩ = some (.string a0_3) := (qAc BK136.out 3).trans rfl; have hcz52_4 : w51.cell? ⟨gb136, 4, none⟩ = some (.slice A0_4 l0_4.length c0_4) := (qAc BK136.out 4).trans rfl; have hcz52_5 : w51.cell? ⟨gb136, 5, none⟩ = some (.slice A0_5 l0_5.length c0_5) := (qAc BK136.out 5).trans rfl; have hfz52_0 := qAa BK136.out 0; have hfz52_1 := qAa BK136.out 1; have hfz52_2 := qAa BK136.out 2; have hfz52_3 := qAa BK136.out 3; have hfz52_4 := qAa BK136.out 4; have hfz52_5 := qAa BK136.out 5))
             try any_goals (exfalso; have h_ := Sc48.out; rename_i hb_; (try simp only [ByteArray.size_extract, ByteArray.size_append] at h_ hb_); (try simp only [ByteArray.size, List.size_toArray, List.length_cons, List.length_nil] at h_ hb_); omega)
             try any_goals (exfalso; have h_ := Sc49.out; rename_i hb_; (try simp only [ByteArray.size_extract, ByteArray.size_append] at h_ hb_); (try simp only [ByteArray.size, List.size_toArray, List.length_cons, List.length_nil] at h_ hb_); omega)
             go_ret
             exact ⟨by first | rfl | (simp [qAm, qAl] <;> rfl) | (simp [*, qAm, qAl] <;> rfl), by repeat (first | (with_reducible first | exact HB.out | apply qAd | apply qAb | apply qAe | refine qAg ?_ GE136.out) | exact HB.out)⟩
            ·rw [if_neg c49] at H
             exact absurd H (by simp)
           ·rw [if_neg c48] at H
            exact absurd H (by simp)
          ·rw [if_neg c47] at H
           have c47b0 : (a0_0 == 5) = false := beq_eq_false_iff_ne.mpr c47
           have c47b1 : (a0_0 != 5) = true := bne_iff_ne.mpr c47
           by_cases c53 : 1 + t140.size ≤ 9223372036854775807
           ·rw [if_pos c53] at H
            have c53b0 := eq_true c53
            have c53b1 : decide (1 + t140.size ≤ 9223372036854775807) = true := decide_eq_true c53
            try have c53b2 : (9223372036854775807 < 1 + t140.size) = False := eq_false (Nat.not_lt.2 c53)
            have Sc53 := Aside0.mk c53
            clear c53
            by_cases c54 : ((⟨#[91]⟩ : ByteArray) ++ t140).size + 1 ≤ 9223372036854775807
            ·rw [if_pos c54] at H
             have c54b0 := eq_true c54
             have c54b1 : decide (((⟨#[91]⟩ : ByteArray) ++ t140).size + 1 ≤ 9223372036854775807) = true := decide_eq_true c54
             try have c54b2 : (9223372036854775807 < ((⟨#[91]⟩ : ByteArray) ++ t140).size + 1) = False := eq_false (Nat.not_lt.2 c54)
             have Sc54 := Aside0.mk c54
             clear c54
             obtain rfl := Option.some.inj H
             obtain ⟨Ao55, co55, eo55⟩ := Kd.R_slice HO_3.out
             subst eo55
             go_wp2_with (first | ((with_reducible refine qAn (f := 68) rfl ?_); refine goesL_ (some 56) rfl rfl Tryd.func68 (by kernel_rfl) rfl #[.slice Ao55 x3_2.length co55, .string (⟨#[44]⟩ : ByteArray)] rfl (by (try simp only [List.map_toArray, List.map_cons, List.map_nil]); first | done | rfl | (simp only [List.length_drop, List.length_take]; rfl)) ?_; (with_reducible refine (strings_Join.calls _ _ x3_2 (⟨#[44]⟩ : ByteArray) t140 _ ?side1 ?side2 A46.out).mono ?_); (case side1 => repeat (first | exact (Kd.R_reads' HO_3.out).2.2 | (with_reducible refine Kd.C_alloc ?_ _) | (with_reducible refine Kd.C_drewN ?_ _) | (with_reducible refine Kd.C_drew ?_))); (case side2 => exact (Kd.R_reads' HO_3.out).2.1); rintro e w56 ⟨rfl, hb⟩; refine ⟨_, rfl, ?_⟩; have n0_ := Aside0.mk (Kd.R_below (by (with_reducible repeat (first | apply Kd.R_alloc | apply Kd.R_drewN | apply Kd.R_drew)); exact HO_3.out) hb); have n1_ := Aside0.mk (qAk (g := gb136) (o := .cells #[.int .i64 a0_0, .bool a0_1, .int .i64 a0_2, .string a0_3, .slice A0_4 l0_4.length c0_4, .slice A0_5 l0_5.length c0_5] 25 (0, 0)) (by (with_reducible repeat (first | refine qAf ?_ _ | refine qAh ?_ | refine blk_alloc ?_ _)); exact BK136.out) hb); have n2_ := Aside0.mk (qAi (by repeat (first | (with_reducible first | exact HB.out | apply qAd | apply qAb | apply qAe | refine qAg ?_ GE136.out) | exact HB.out)) hb); clear HO_3; clear BK136; clear HB; have HO_3 := n0_; have BK136 := n1_; have HB := n2_; clear n0_ n1_ n2_; (try clear hb); (try clear hb2); (try clear hk); (try clear hi); have hcz57_0 : w56.cell? ⟨gb136, 0, none⟩ = some (.int .i64 a0_0) := (qAc BK136.out 0).trans rfl; have hcz57_1 : w56.cell? ⟨gb136, 1, none⟩ = some (.bool a0_1) := (qAc BK136.out 1).trans rfl; have hcz57_2 : w56.cell? ⟨gb136, 2, none⟩ = some (.int .i64 a0_2) := (qAc BK136.out 2).trans rfl; have hcz57_3 : w56.cell? ⟨gb136, 3, none⟩ = some (.string a0_3) := (qAc BK136.out 3).trans rfl; have hcz57_4 : w56.cell? ⟨gb136, 4, none⟩ = some (.slice A0_4 l0_4.length c0_4) := (qAc BK136.out 4).trans rfl; have hcz57_5 : w56.cell? ⟨gb136, 5, none⟩ = some (.slice A0_5 l0_5.length c0_5) := (qAc BK136.out 5).trans rfl; have hfz57_0 := qAa BK136.out 0; have hfz57_1 := qAa BK136.out 1; have hfz57_2 := qAa BK136.out 2; have hfz57_3 := qAa BK136.out 3; have hfz57_4 := qAa BK136.out 4; have hfz57_5 := qAa BK136.out 5))
             try any_goals (exfalso; have h_ := Sc53.out; rename_i hb_; (try simp only [ByteArray.size_extract, ByteArray.size_append] at h_ hb_); (try simp only [ByteArray.size, List.size_toArray, List.length_cons, List.length_nil] at h_ hb_); omega)
             try any_goals (exfalso; have h_ := Sc54.out; rename_i hb_; (try simp only [ByteArray.size_extract, ByteArray.size_append] at h_ hb_); (try simp only [ByteArray.size, List.size_toArray, List.length_cons, List.length_nil] at h_ hb_); omega)
             go_ret
             exact ⟨by first | rfl | (simp [qAm, qAl] <;> rfl) | (simp [*, qAm, qAl] <;> rfl), by repeat (first | (with_reducible first | exact HB.out | apply qAd | apply qAb | apply qAe | refine qAg ?_ GE136.out) | exact HB.out)⟩
            ·rw [if_neg c54] at H
             exact absurd H (by simp)
           ·rw [if_neg c53] at H
            exact absurd H (by simp)
      ·replace c20 := Bool.eq_false_iff.mpr c20
       subst c20
       have H1 : (some (⟨#[110, 117, 108, 108]⟩ : ByteArray)) = some r := by rw [if_neg (show ¬ (false = true) by decide)] at H; exact H
       clear H
       have H := H1
       clear H1
       obtain rfl := Option.some.inj H
       go_wp2
       go_ret
       exact ⟨by first | rfl | (simp [qAm, qAl] <;> rfl) | (simp [*, qAm, qAl] <;> rfl), by repeat (first | (with_reducible first | exact HB.out | apply qAd | apply qAb | apply qAe | refine qAg ?_ GE136.out) | exact HB.out)⟩
end Go.Proofs.YtbnoihpooeombaaDoor.P

namespace Go.Proofs.YtbnoihpooeombaaDoor.P
open Go.Proofs.YtbnoihpooeombaaDoor.X
open Go.RowKit Go.Proofs.YtbnoihpooeombaaDoorW.PrintWords Go.Proofs.YtbnoihpooeombaaDoorW.PrintLast Go.Proofs.YtbnoihpooeombaaDoorW.PrintMore
attribute [local go_sem] qAr qAy
set_option linter.unusedVariables false
set_option linter.unusedSimpArgs false
def value_Lay.f (k : Nat) (a0_0 : Int) (a0_1 : Bool) (a0_2 : Int) (a0_3 : ByteArray) (l0_4 : List (S25)) (l0_5 : List ByteArray) : Option (ByteArray × Int) := (value_May.f a0_0 a0_1 a0_2 a0_3 l0_4 l0_5).bind fun t153 => (if t153 = true then ((value_text.f k a0_0 a0_1 a0_2 a0_3 l0_4 l0_5).bind fun t154 => (some (t154, 0))) else (some ((⟨#[]⟩ : ByteArray), 2)))
theorem value_Lay.mono : ∀ a0 a1 a2 a3 a4 a5 k, LeO (value_Lay.f k a0 a1 a2 a3 a4 a5) (value_Lay.f (k + 1) a0 a1 a2 a3 a4 a5) := by
 intro a0 a1 a2 a3 a4 a5 k
 unfold value_Lay.f
 repeat' first
   | (with_reducible exact value_text.mono _ _ _ _ _ _ _)
   | (with_reducible exact LeO.refl _)
   | (with_reducible exact LeO.none _)
   | (with_reducible refine LeO.ite ?_ ?_)
   | (with_reducible refine LeO.bind ?_ (fun _ => ?_))
   | exact value_text.mono _ _ _ _ _ _ _
   | exact LeO.none _
   | refine LeO.ite ?_ ?_
   | refine LeO.bind ?_ (fun _ => ?_)
set_option maxHeartbeats 8000000 in
set_option maxRecDepth 100000 in
theorem value_Lay.calls (k : Nat) (a0_0 : Int) (a0_1 : Bool) (a0_2 : Int) (a0_3 : ByteArray) (A0_4 : Option Addr) (c0_4 : Nat) (l0_4 : List (S25)) (A0_5 : Option Addr) (c0_5 : Nat) (l0_5 : List ByteArray) (r1 : ByteArray) (r2 : Int) (w : World) (hT : Aside0 (Tabs w)) (hr0_4 : Kd.C k25 w A0_4 l0_4.length l0_4) (hc0_4 : l0_4.length ≤ c0_4) (hr0_5 : Kd.C Kd.string w A0_5 l0_5.length l0_5) (hc0_5 : l0_5.length ≤ c0_5) (h : value_Lay.f k a0_0 a0_1 a0_2 a0_3 l0_4 l0_5 = some (r1, r2)) :
  Calls Tryd.prog 16 #[.agg #[.int .i64 a0_0, .bool a0_1, .int .i64 a0_2, .string a0_3, .slice A0_4 l0_4.length c0_4, .slice A0_5 l0_5.length c0_5]] w fun e w' => e = .returned (.tuple #[.string r1, .int .i64 r2]) ∧ Below w.heap.size w w' := by
 have hu25 := Tryd.underlying25
 have HR0_4 := Aside0.mk hr0_4
 have HC0_4 := Aside0.mk hc0_4
 clear hr0_4 hc0_4
 have HR0_5 := Aside0.mk hr0_5
 have HC0_5 := Aside0.mk hc0_5
 clear hr0_5 hc0_5
 have HB := Aside0.mk (Below.refl w.heap.size w)
 have H : ((value_May.f a0_0 a0_1 a0_2 a0_3 l0_4 l0_5).bind fun t153 => (if t153 = true then ((value_text.f k a0_0 a0_1 a0_2 a0_3 l0_4 l0_5).bind fun t154 => (some (t154, 0))) else (some ((⟨#[]⟩ : ByteArray), 2)))) = some (r1, r2) := h
 clear h
 replace H := Option.bind_eq_some_iff.mp H
 obtain ⟨t153, A20, H⟩ := H
 replace H : (if t153 = true then ((value_text.f k a0_0 a0_1 a0_2 a0_3 l0_4 l0_5).bind fun t154 => (some (t154, 0))) else (some ((⟨#[]⟩ : ByteArray), 2))) = some (r1, r2) := H
 have A2 := Aside0.mk A20
 clear A20
 by_cases c3 : t153 = true
 ·subst c3
  have H1 : ((value_text.f k a0_0 a0_1 a0_2 a0_3 l0_4 l0_5).bind fun t154 => (some (t154, 0))) = some (r1, r2) := by rw [if_pos rfl] at H; exact H
  clear H
  have H := H1
  clear H1
  replace H := Option.bind_eq_some_iff.mp H
  obtain ⟨t154, A40, H⟩ := H
  replace H : (some (t154, 0)) = some (r1, r2) := H
  have A4 := Aside0.mk A40
  clear A40
  simp only [Option.some.injEq, Prod.mk.injEq] at H
  obtain ⟨rfl, rfl⟩ := H
  go_enter Tryd.func16, Tryd.ntmps16
  go_wp2_with (first | ((with_reducible refine qA0 (N := 1) rfl ?_); refine qAz ?hg (N := 1) ?hd (cs := #[.int .i64 a0_0, .bool a0_1, .int .i64 a0_2, .string a0_3, .slice A0_4 l0_4.length c0_4, .slice A0_5 l0_5.length c0_5]) (t := 25) ?hr ?_; (case hd => rfl); (case hg => rfl); (case hr => first | (go_simp; done) | (go_simp; rfl)); intro gb152 hg w5 hbox hb; have n0_ := Aside0.mk (qAi (by repeat (first | (with_reducible first | exact HB.out | apply qAd | apply qAb | apply qAe) | exact HB.out)) hb); have n1_ := Aside0.mk (hbox); have n2_ := Aside0.mk ((by rw [hg]; exact (qAj (by repeat (first | (with_reducible first | exact HB.out | apply qAd | apply qAb | apply qAe) | exact HB.out))) : w.heap.size ≤ gb152)); have n3_ := Aside0.mk ((by rw [hg]; exact (qAj (by repeat (first | (with_reducible first | exact HB.out | apply qAd | apply qAb | apply qAe) | exact HB.out))) : w.heap.size ≤ gb152)); clear HB; have HB := n0_; have BK152 := n1_; have GW152 := n2_; have GE152 := n3_; clear n0_ n1_ n2_ n3_; clear hb hbox hg; have hcz6_0 : w5.cell? ⟨gb152, 0, none⟩ = some (.int .i64 a0_0) := (qAc BK152.out 0).trans rfl; have hcz6_1 : w5.cell? ⟨gb152, 1, none⟩ = some (.bool a0_1) := (qAc BK152.out 1).trans rfl; have hcz6_2 : w5.cell? ⟨gb152, 2, none⟩ = some (.int .i64 a0_2) := (qAc BK152.out 2).trans rfl; have hcz6_3 : w5.cell? ⟨gb152, 3, none⟩ = some (.string a0_3) := (qAc BK152.out 3).trans rfl; have hcz6_4 : w5.cell? ⟨gb152, 4, none⟩ = some (.slice A0_4 l0_4.length c0_4) := (qAc BK152.out 4).trans rfl; have hcz6_5 : w5.cell? ⟨gb152, 5, none⟩ = some (.slice A0_5 l0_5.length c0_5) := (qAc BK152.out 5).trans rfl; have hfz6_0 := qAa BK152.out 0; have hfz6_1 := qAa BK152.out 1; have hfz6_2 := qAa BK152.out 2; have hfz6_3 := qAa BK152.out 3; have hfz6_4 := qAa BK152.out 4; have hfz6_5 := qAa BK152.out 5) | ((with_reducible refine qAn (f := 21) rfl ?_); refine goesL_ (some 5) rfl rfl Tryd.func21 (by kernel_rfl) rfl #[.agg #[.int .i64 a0_0, .bool a0_1, .int .i64 a0_2, .string a0_3, .slice A0_4 l0_4.length c0_4, .slice A0_5 l0_5.length c0_5]] rfl (by (try simp only [List.map_toArray, List.map_cons, List.map_nil]); first | done | rfl | (simp only [List.length_drop, List.length_take]; rfl)) ?_; (with_reducible refine (value_May.calls a0_0 a0_1 a0_2 a0_3 _ _ l0_4 _ _ l0_5 true _ ?side1 ?side2 ?side3 ?side4 A2.out).mono ?_); (case side1 => repeat (first | exact (Kd.C_below HR0_4.out HB.out) | (with_reducible refine Kd.C_alloc ?_ _) | (with_reducible refine Kd.C_drewN ?_ _) | (with_reducible refine Kd.C_drew ?_))); (case side2 => exact HC0_4.out); (case side3 => repeat (first | exact (Kd.C_below HR0_5.out HB.out) | (with_reducible refine Kd.C_alloc ?_ _) | (with_reducible refine Kd.C_drewN ?_ _) | (with_reducible refine Kd.C_drew ?_))); (case side4 => exact HC0_5.out); rintro e w7 ⟨rfl, hb⟩; refine ⟨_, rfl, ?_⟩; have n0_ := Aside0.mk (qAk (g := gb152) (o := .cells #[.int .i64 a0_0, .bool a0_1, .int .i64 a0_2, .string a0_3, .slice A0_4 l0_4.length c0_4, .slice A0_5 l0_5.length c0_5] 25 (0, 0)) (by (with_reducible repeat (first | refine qAf ?_ _ | refine qAh ?_ | refine blk_alloc ?_ _)); exact BK152.out) hb); have n1_ := Aside0.mk (qAi (by repeat (first | (with_reducible first | exact HB.out | apply qAd | apply qAb | apply qAe | refine qAg ?_ GE152.out) | exact HB.out)) hb); clear BK152; clear HB; have BK152 := n0_; have HB := n1_; clear n0_ n1_; (try clear hb); (try clear hb2); (try clear hk); (try clear hi); have hcz8_0 : w7.cell? ⟨gb152, 0, none⟩ = some (.int .i64 a0_0) := (qAc BK152.out 0).trans rfl; have hcz8_1 : w7.cell? ⟨gb152, 1, none⟩ = some (.bool a0_1) := (qAc BK152.out 1).trans rfl; have hcz8_2 : w7.cell? ⟨gb152, 2, none⟩ = some (.int .i64 a0_2) := (qAc BK152.out 2).trans rfl; have hcz8_3 : w7.cell? ⟨gb152, 3, none⟩ = some (.string a0_3) := (qAc BK152.out 3).trans rfl; have hcz8_4 : w7.cell? ⟨gb152, 4, none⟩ = some (.slice A0_4 l0_4.length c0_4) := (qAc BK152.out 4).trans rfl; have hcz8_5 : w7.cell? ⟨gb152, 5, none⟩ = some (.slice A0_5 l0_5.length c0_5) := (qAc BK152.out 5).trans rfl; have hfz8_0 := qAa BK152.out 0; have hfz8_1 := qAa BK152.out 1; have hfz8_2 := qAa BK152.out 2; have hfz8_3 := qAa BK152.out 3; have hfz8_4 := qAa BK152.out 4; have hfz8_5 := qAa BK152.out 5) | ((with_reducible refine qAn (f := 47) rfl ?_); refine goesL_ (some 8) rfl rfl Tryd.func47 (by kernel_rfl) rfl #[.agg #[.int .i64 a0_0, .bool a0_1, .int .i64 a0_2, .string a0_3, .slice A0_4 l0_4.length c0_4, .slice A0_5 l0_5.length c0_5]] rfl (by (try simp only [List.map_toArray, List.map_cons, List.map_nil]); first | done | rfl | (simp only [List.length_drop, List.length_take]; rfl)) ?_; (with_reducible refine (value_text.calls k a0_0 a0_1 a0_2 a0_3 _ _ l0_4 _ _ l0_5 t154 _ ?side1 ?side2 ?side3 ?side4 ?side5 A4.out).mono ?_); (case side1 => exact ⟨Tabs.below hT.out (by repeat (first | (with_reducible first | exact HB.out | apply qAd | apply qAb | apply qAe | refine qAg ?_ GE152.out) | exact HB.out))⟩); (case side2 => repeat (first | exact (Kd.C_below HR0_4.out HB.out) | (with_reducible refine Kd.C_alloc ?_ _) | (with_reducible refine Kd.C_drewN ?_ _) | (with_reducible refine Kd.C_drew ?_))); (case side3 => exact HC0_4.out); (case side4 => repeat (first | exact (Kd.C_below HR0_5.out HB.out) | (with_reducible refine Kd.C_alloc ?_ _) | (with_reducible refine Kd.C_drewN ?_ _) | (with_reducible refine Kd.C_drew ?_))); (case side5 => exact HC0_5.out); rintro e w9 ⟨rfl, hb⟩; refine ⟨_, rfl, ?_⟩; have n0_ := Aside0.mk (qAk (g := gb152) (o := .cells #[.int .i64 a0_0, .bool a0_1, .int .i64 a0_2, .string a0_3, .slice A0_4 l0_4.length c0_4, .slice A0_5 l0_5.length c0_5] 25 (0, 0)) (by (with_reducible repeat (first | refine qAf ?_ _ | refine qAh ?_ | refine blk_alloc ?_ _)); exact BK152.out) hb); have n1_ := Aside0.mk (qAi (by repeat (first | (with_reducible first | exact HB.out | apply qAd | apply qAb | apply qAe | refine qAg ?_ GE152.out) | exact HB.out)) hb); clear BK152; clear HB; have BK152 := n0_; have HB := n1_; clear n0_ n1_; (try clear hb); (try clear hb2); (try clear hk); (try clear hi)))
  go_ret2
  exact ⟨by first | rfl | (simp [qAm, qAl] <;> rfl) | (simp [*, qAm, qAl] <;> rfl), by repeat (first | (with_reducible first | exact HB.out | apply qAd | apply qAb | apply qAe | refine qAg ?_ GE152.out) | exact HB.out)⟩
 ·replace c3 := Bool.eq_false_iff.mpr c3
  subst c3
  have H1 : (some ((⟨#[]⟩ : ByteArray), 2)) = some (r1, r2) := by rw [if_neg (show ¬ (false = true) by decide)] at H; exact H
  clear H
  have H := H1
  clear H1
  simp only [Option.some.injEq, Prod.mk.injEq] at H
  obtain ⟨rfl, rfl⟩ := H
  go_enter Tryd.func16, Tryd.ntmps16
  go_wp2_with (first | ((with_reducible refine qA0 (N := 1) rfl ?_); refine qAz ?hg (N := 1) ?hd (cs := #[.int .i64 a0_0, .bool a0_1, .int .i64 a0_2, .string a0_3, .slice A0_4 l0_4.length c0_4, .slice A0_5 l0_5.length c0_5]) (t := 25) ?hr ?_; (case hd => rfl); (case hg => rfl); (case hr => first | (go_simp; done) | (go_simp; rfl)); intro gb152 hg w10 hbox hb; have n0_ := Aside0.mk (qAi (by repeat (first | (with_reducible first | exact HB.out | apply qAd | apply qAb | apply qAe) | exact HB.out)) hb); have n1_ := Aside0.mk (hbox); have n2_ := Aside0.mk ((by rw [hg]; exact (qAj (by repeat (first | (with_reducible first | exact HB.out | apply qAd | apply qAb | apply qAe) | exact HB.out))) : w.heap.size ≤ gb152)); have n3_ := Aside0.mk ((by rw [hg]; exact (qAj (by repeat (first | (with_reducible first | exact HB.out | apply qAd | apply qAb | apply qAe) | exact HB.out))) : w.heap.size ≤ gb152)); clear HB; have HB := n0_; have BK152 := n1_; have GW152 := n2_; have GE152 := n3_; clear n0_ n1_ n2_ n3_; clear hb hbox hg; have hcz11_0 : w10.cell? ⟨gb152, 0, none⟩ = some (.int .i64 a0_0) := (qAc BK152.out 0).trans rfl; have hcz11_1 : w10.cell? ⟨gb152, 1, none⟩ = some (.bool a0_1) := (qAc BK152.out 1).trans rfl; have hcz11_2 : w10.cell? ⟨gb152, 2, none⟩ = some (.int .i64 a0_2) := (qAc BK152.out 2).trans rfl; have hcz11_3 : w10.cell? ⟨gb152, 3, none⟩ = some (.string a0_3) := (qAc BK152.out 3).trans rfl; have hcz11_4 : w10.cell? ⟨gb152, 4, none⟩ = some (.slice A0_4 l0_4.length c0_4) := (qAc BK152.out 4).trans rfl; have hcz11_5 : w10.cell? ⟨gb152, 5, none⟩ = some (.slice A0_5 l0_5.length c0_5) := (qAc BK152.out 5).trans rfl; have hfz11_0 := qAa BK152.out 0; have hfz11_1 := qAa BK152.out 1; have hfz11_2 := qAa BK152.out 2; have hfz11_3 := qAa BK152.out 3; have hfz11_4 := qAa BK152.out 4; have hfz11_5 := qAa BK152.out 5) | ((with_reducible refine qAn (f := 21) rfl ?_); refine goesL_ (some 5) rfl rfl Tryd.func21 (by kernel_rfl) rfl #[.agg #[.int .i64 a0_0, .bool a0_1, .int .i64 a0_2, .string a0_3, .slice A0_4 l0_4.length c0_4, .slice A0_5 l0_5.length c0_5]] rfl (by (try simp only [List.map_toArray, List.map_cons, List.map_nil]); first | done | rfl | (simp only [List.length_drop, List.length_take]; rfl)) ?_; (with_reducible refine (value_May.calls a0_0 a0_1 a0_2 a0_3 _ _ l0_4 _ _ l0_5 false _ ?side1 ?side2 ?side3 ?side4 A2.out).mono ?_); (case side1 => repeat (first | exact (Kd.C_below HR0_4.out HB.out) | (with_reducible refine Kd.C_alloc ?_ _) | (with_reducible refine Kd.C_drewN ?_ _) | (with_reducible refine Kd.C_drew ?_))); (case side2 => exact HC0_4.out); (case side3 => repeat (first | exact (Kd.C_below HR0_5.out HB.out) | (with_reducible refine Kd.C_alloc ?_ _) | (with_reducible refine Kd.C_drewN ?_ _) | (with_reducible refine Kd.C_drew ?_))); (case side4 => exact HC0_5.out); rintro e w12 ⟨rfl, hb⟩; refine ⟨_, rfl, ?_⟩; have n0_ := Aside0.mk (qAk (g := gb152) (o := .cells #[.int .i64 a0_0, .bool a0_1, .int .i64 a0_2, .string a0_3, .slice A0_4 l0_4.length c0_4, .slice A0_5 l0_5.length c0_5] 25 (0, 0)) (by (with_reducible repeat (first | refine qAf ?_ _ | refine qAh ?_ | refine blk_alloc ?_ _)); exact BK152.out) hb); have n1_ := Aside0.mk (qAi (by repeat (first | (with_reducible first | exact HB.out | apply qAd | apply qAb | apply qAe | refine qAg ?_ GE152.out) | exact HB.out)) hb); clear BK152; clear HB; have BK152 := n0_; have HB := n1_; clear n0_ n1_; (try clear hb); (try clear hb2); (try clear hk); (try clear hi)))
  go_ret2
  exact ⟨by first | rfl | (simp [qAm, qAl] <;> rfl) | (simp [*, qAm, qAl] <;> rfl), by repeat (first | (with_reducible first | exact HB.out | apply qAd | apply qAb | apply qAe | refine qAg ?_ GE152.out) | exact HB.out)⟩
end Go.Proofs.YtbnoihpooeombaaDoor.P

namespace Go.Proofs.YtbnoihpooeombaaDoor.X
open Go.RowKit Go.Proofs.YtbnoihpooeombaaDoorW.PrintWords Go.Proofs.YtbnoihpooeombaaDoor.P
set_option linter.unusedVariables false
set_option linter.unusedSimpArgs false
theorem qGu : ∀ ps : List (List Int), Lib.join (ps.map (·.map u8)) [44] = (joinC 44 ps).map u8
  | [] => rfl
  | [x] => by simp [Lib.join_one, joinC]
  | x :: y :: l => by
    have ih := qGu (y :: l)
    have e : Lib.join ((x :: y :: l).map (·.map u8)) [44] = x.map u8 ++ [44] ++ Lib.join ((y :: l).map (·.map u8)) [44] := by
      simp [Lib.join, List.intercalate]
    rw [e, ih, joinC, List.map_append, List.map_cons, List.append_assoc]
    rfl
theorem qHl (ps : List (List Int)) : joinB (ps.map strOfNums) ⟨#[44]⟩ = strOfNums (joinC 44 ps) := by
  unfold joinB
  rw [qBh, ← qGu, List.map_map]
  rfl
theorem qBc (l : List Int) : (strOfNums l).size = l.length := by rw [qBh, qGe, List.length_map]
theorem qBq (a b : List Int) : strOfNums a ++ strOfNums b = strOfNums (a ++ b) := by
  rw [qBh, qBh, qBh, qG4, List.map_append]
theorem qGc (s : ByteArray) : strOfNums (qA4 s) = s := qEy s
theorem qDj (c : Int) : ∀ (l : List (List Int)) (p : List Int), p ∈ l → p.length ≤ (joinC c l).length
  | [], p, h => by cases h
  | [x], p, h => by have : p = x := by simpa using h
                    subst this; simp [joinC]
  | x :: y :: l, p, h => by
    simp only [joinC, List.length_append, List.length_cons]
    rcases List.mem_cons.1 h with rfl | h
    · omega
    · have := qDj c (y :: l) p h; omega
theorem qGa (d : Nat) (x : S25) (hs : okV (d + 1) x) (o : Bool) (ho : o = true ↔ x.f0 = 5) (hl : (joinC 44 (qAq (textI d) o x.f4 x.f5)).length + 2 ≤ 140737488355000)
    (hc : ∀ y ∈ x.f4, (textI d y).length ≤ 140737488355000 → Ev (fun k => value_text.f k y.f0 y.f1 y.f2 y.f3 y.f4 y.f5) (textB d y)) :
    ∀ (j i : Nat), x.f4.length - i = j → i ≤ x.f4.length → Ev (fun k => value_text.l0 k (((qAq (textI d) o x.f4 x.f5).take i).map strOfNums) x.f4 (x.f4.length : Int) (i : Int) x.f0 x.f1 x.f2 x.f3 x.f4 x.f5) (strOfNums ((if o then 123 else 91) :: (joinC 44 (qAq (textI d) o x.f4 x.f5) ++ [if o then 125 else 93]))) := by
  obtain ⟨hk0, hk5, hn0, hn1, hs3, hs4, hs5, hsk, hkl, hse⟩ := hs
  have hpl := qCs (textI d) o x.f4 x.f5
  intro j
  induction j with
  | zero =>
    intro i hj hi
    refine ⟨1, fun k hk => ?_⟩
    obtain ⟨k, rfl⟩ : ∃ m, k = m + 1 := ⟨k - 1, by omega⟩
    simp only [value_text.l0]
    have hJ : strings_Join.f ((qAq (textI d) o x.f4 x.f5).map strOfNums) ⟨#[44]⟩ = some (strOfNums (joinC 44 (qAq (textI d) o x.f4 x.f5))) := by
      unfold strings_Join.f
      rw [qHl, if_pos ⟨by rw [qBc]; omega, by rw [List.length_map, hpl]; omega⟩]
    rw [if_neg (by omega), List.take_of_length_le (by omega), hJ]
    simp only [Option.bind_some]
    have e1 : (⟨#[123]⟩ : ByteArray) = strOfNums [123] := rfl
    have e2 : (⟨#[125]⟩ : ByteArray) = strOfNums [125] := rfl
    have e3 : (⟨#[91]⟩ : ByteArray) = strOfNums [91] := rfl
    have e4 : (⟨#[93]⟩ : ByteArray) = strOfNums [93] := rfl
    by_cases c : x.f0 = 5
    · rw [if_pos c, e1, e2, qBq, qBq, qBc, qBc, if_pos (by omega), if_pos (by simp; omega), ho.2 c]
      rfl
    · have : o = false := by cases o with
        | false => rfl
        | true => exact absurd (ho.1 rfl) c
      rw [if_neg c, e3, e4, qBq, qBq, qBc, qBc, if_pos (by omega), if_pos (by simp; omega), this]
      rfl
  | succ j ih =>
    intro i hj hi
    have hlt : i < x.f4.length := by omega
    have hkey : o = true → i < x.f5.length := fun h => by have := hkl (ho.1 h); omega
    have hpg := qCt (textI d) o i x.f4 x.f5 hlt hkey
    have hlt2 : i < (qAq (textI d) o x.f4 x.f5).length := by omega
    have hpe : (qAq (textI d) o x.f4 x.f5)[i] = (if ho : o = true then quoteL (x.f5[i]'(hkey ho)) ++ 58 :: textI d x.f4[i] else textI d x.f4[i]) := by
      rw [List.getElem?_eq_getElem hlt2] at hpg; exact Option.some.inj hpg
    have hpm := qDj 44 _ _ (List.getElem_mem hlt2)
    have htk : (qAq (textI d) o x.f4 x.f5).take (i + 1) = (qAq (textI d) o x.f4 x.f5).take i ++ [(qAq (textI d) o x.f4 x.f5)[i]] := (List.take_append_getElem hlt2).symm
    have hlen : (textI d x.f4[i]).length ≤ ((qAq (textI d) o x.f4 x.f5)[i]).length := by
      rw [hpe]
      split
      · simp only [List.length_append, List.length_cons]; omega
      · omega
    obtain ⟨K1, hK1⟩ := hc x.f4[i] (List.getElem_mem hlt) (by omega)
    obtain ⟨K2, hK2⟩ := ih (i + 1) (by omega) (by omega)
    have E3 : Aside0 (wrap64 ((i : Int) + 1) = ((i + 1 : Nat) : Int)) := ⟨qBm (by omega) (by omega)⟩
    have hacc : (((qAq (textI d) o x.f4 x.f5).take i).map strOfNums).length < 8796093022208 := by rw [List.length_map, List.length_take]; omega
    by_cases c : x.f0 = 5
    · have hot := ho.2 c
      have hk := hkey hot
      obtain ⟨K3, hK3⟩ := qD8 (x.f5[i]'hk) (by have := hsk _ (List.getElem_mem hk); omega)
      refine ⟨K1 + K2 + K3 + 1, fun k hk' => ?_⟩
      obtain ⟨k, rfl⟩ : ∃ m, k = m + 1 := ⟨k - 1, by omega⟩
      have hK1 := hK1 k (by omega)
      have hK2 := hK2 k (by omega)
      have hK3 := hK3 k (by omega)
      simp only at hK1 hK2 hK3
      simp only [value_text.l0]
      rw [if_pos (by omega), if_pos (by omega), if_pos (by omega), qB2 x.f4 i hlt, hK1]
      simp only [Option.bind_some]
      rw [if_pos c, if_pos (by omega), qA3 x.f5 i hk, hK3]
      simp only [Option.bind_some]
      have e1 : (⟨#[58]⟩ : ByteArray) = strOfNums [58] := rfl
      have e2 : quoteB (x.f5[i]'hk) ++ (⟨#[58]⟩ : ByteArray) ++ textB d x.f4[i] = strOfNums ((qAq (textI d) o x.f4 x.f5)[i]) := by
        rw [hpe, dif_pos hot, quoteB, textB, e1, qBq, qBq]
        simp
      have hq : (quoteB (x.f5[i]'hk)).size + 1 + (textB d x.f4[i]).size ≤ 140737488355000 := by
        have := congrArg ByteArray.size e2
        rw [ByteArray.size_append, ByteArray.size_append, qBc] at this
        have e5 : (⟨#[58]⟩ : ByteArray).size = 1 := rfl
        omega
      rw [if_pos (by omega), if_pos (by rw [ByteArray.size_append]; have e5 : (⟨#[58]⟩ : ByteArray).size = 1 := rfl; omega), if_pos hacc, e2, E3.out]
      rw [htk, List.map_append] at hK2
      exact hK2
    · have hof : o = false := by cases o with
        | false => rfl
        | true => exact absurd (ho.1 rfl) c
      refine ⟨K1 + K2 + 1, fun k hk' => ?_⟩
      obtain ⟨k, rfl⟩ : ∃ m, k = m + 1 := ⟨k - 1, by omega⟩
      have hK1 := hK1 k (by omega)
      have hK2 := hK2 k (by omega)
      simp only at hK1 hK2
      simp only [value_text.l0]
      rw [if_pos (by omega), if_pos (by omega), if_pos (by omega), qB2 x.f4 i hlt, hK1]
      simp only [Option.bind_some]
      rw [if_neg c, if_pos hacc, E3.out]
      have e2 : textB d x.f4[i] = strOfNums ((qAq (textI d) o x.f4 x.f5)[i]) := by
        rw [hpe, dif_neg (by simp [hof]), textB]
      rw [e2]
      rw [htk, List.map_append] at hK2
      exact hK2
theorem qHu : ∀ (d : Nat) (x : S25), okV d x → (textI d x).length ≤ 140737488355000 → Ev (fun k => value_text.f k x.f0 x.f1 x.f2 x.f3 x.f4 x.f5) (textB d x) := by
  intro d
  induction d with
  | zero => intro x h; exact h.elim
  | succ d ih =>
    intro x hs hl
    have hs' := hs
    obtain ⟨hk0, hk5, hn0, hn1, hs3, hs4, hs5, hsk, hkl, hse⟩ := hs
    have hcase : x.f0 = 0 ∨ x.f0 = 1 ∨ x.f0 = 2 ∨ x.f0 = 3 ∨ x.f0 = 4 ∨ x.f0 = 5 := by omega
    have hch : ∀ y ∈ x.f4, (textI d y).length ≤ 140737488355000 → Ev (fun k => value_text.f k y.f0 y.f1 y.f2 y.f3 y.f4 y.f5) (textB d y) := fun y hy h => ih y (hse y hy) h
    rcases hcase with h | h | h | h | h | h
    · refine ⟨2, fun k hk => ?_⟩
      obtain ⟨k, rfl⟩ : ∃ m, k = m + 2 := ⟨k - 2, by omega⟩
      simp only [value_text.f]
      rw [if_neg (by omega), if_neg (by omega), if_neg (by omega), if_neg (by omega), h]
      simp only [value_text.j0]
      rw [if_neg (by decide), textB, textI, if_pos h]
      rfl
    · refine ⟨2, fun k hk => ?_⟩
      obtain ⟨k, rfl⟩ : ∃ m, k = m + 2 := ⟨k - 2, by omega⟩
      simp only [value_text.f]
      rw [if_pos h, textB, textI, if_neg (by omega), if_pos h]
      cases x.f1 <;> rfl
    · refine ⟨2, fun k hk => ?_⟩
      obtain ⟨k, rfl⟩ : ∃ m, k = m + 2 := ⟨k - 2, by omega⟩
      simp only [value_text.f]
      rw [if_neg (by omega), if_pos h, textB, textI, if_neg (by omega), if_neg (by omega), if_pos h, qGc, strconv_Itoa.f, if_pos (by omega)]
      rfl
    · obtain ⟨K, hK⟩ := qD8 x.f3 (by omega)
      refine ⟨K + 2, fun k hk => ?_⟩
      obtain ⟨k, rfl⟩ : ∃ m, k = m + 1 := ⟨k - 1, by omega⟩
      have hK := hK k (by omega)
      simp only at hK
      simp only [value_text.f]
      rw [if_neg (by omega), if_neg (by omega), if_pos h, hK, textB, textI, if_neg (by omega), if_neg (by omega), if_neg (by omega), if_pos h]
      rfl
    · have ht : textI (d + 1) x = 91 :: (joinC 44 (qAq (textI d) false x.f4 x.f5) ++ [93]) := by
        rw [textI, if_neg (by omega), if_neg (by omega), if_neg (by omega), if_neg (by omega), if_neg (by omega)]
      rw [ht] at hl
      simp only [List.length_cons, List.length_append, List.length_nil] at hl
      obtain ⟨K, hK⟩ := qGa d x hs' false (by simp [h]) (by omega) hch x.f4.length 0 (by omega) (by omega)
      refine ⟨K + 2, fun k hk => ?_⟩
      obtain ⟨k, rfl⟩ : ∃ m, k = m + 2 := ⟨k - 2, by omega⟩
      have hK := hK k (by omega)
      simp only [value_text.f]
      rw [if_neg (by omega), if_neg (by omega), if_neg (by omega), if_pos h]
      simp only [value_text.j0]
      rw [if_pos (by simp [h]), textB, ht]
      exact hK
    · have ht : textI (d + 1) x = 123 :: (joinC 44 (qAq (textI d) true x.f4 x.f5) ++ [125]) := by
        rw [textI, if_neg (by omega), if_neg (by omega), if_neg (by omega), if_neg (by omega), if_pos h]
      rw [ht] at hl
      simp only [List.length_cons, List.length_append, List.length_nil] at hl
      obtain ⟨K, hK⟩ := qGa d x hs' true (by simp [h]) (by omega) hch x.f4.length 0 (by omega) (by omega)
      refine ⟨K + 2, fun k hk => ?_⟩
      obtain ⟨k, rfl⟩ : ∃ m, k = m + 2 := ⟨k - 2, by omega⟩
      have hK := hK k (by omega)
      simp only [value_text.f]
      rw [if_neg (by omega), if_neg (by omega), if_neg (by omega), if_neg (by omega)]
      simp only [value_text.j0]
      rw [if_pos (by simp [h]), textB, ht]
      exact hK
end Go.Proofs.YtbnoihpooeombaaDoor.X

namespace Go.Proofs.YtbnoihpooeombaaDoor.X
open Go.RowKit Go.Proofs.YtbnoihpooeombaaDoorW.PrintWords Go.Proofs.YtbnoihpooeombaaDoor.P
set_option linter.unusedVariables false
set_option linter.unusedSimpArgs false
theorem qCd {x : S25} (h : qA7 x = true) : 0 ≤ x.f0 ∧ x.f0 ≤ 5 ∧ -9007199254740992 ≤ x.f2 ∧ x.f2 ≤ 9007199254740992 ∧ (x.f0 = 5 → x.f5.length = x.f4.length) ∧ (x.f0 ≠ 1 → x.f1 = false) ∧ (x.f0 ≠ 2 → x.f2 = 0) ∧ (x.f0 ≠ 3 → x.f3.size = 0) ∧ (x.f0 ≠ 4 → x.f0 ≠ 5 → x.f4 = []) ∧ (x.f0 ≠ 5 → x.f5 = []) ∧ qAx x.f5 = true := by
  rw [qEs] at h
  unfold plainB at h
  simp only [Bool.and_eq_true, Bool.or_eq_true, decide_eq_true_eq, beq_iff_eq, bne_iff_ne, Bool.not_eq_true', List.isEmpty_iff] at h
  obtain ⟨⟨⟨⟨⟨h1, h2⟩, h3⟩, h4⟩, h5⟩, h6, h7, h8, h9, h10, h11⟩ := h
  refine ⟨h6, h7, h8, h9, fun e => h10.resolve_left (fun h => h e), fun e => h1.resolve_left e, fun e => h2.resolve_left e, fun e => h3.resolve_left e, fun e e' => (h4.resolve_left (fun h => h.elim e e')), fun e => h5.resolve_left e, h11⟩
theorem qB7 {d : Nat} {x : S25} (h : goodV (d + 1) x = true) : qA7 x = true ∧ ∀ y ∈ x.f4, goodV d y = true := by
  rw [goodV, Bool.and_eq_true, List.all_eq_true] at h
  exact h
theorem qDz : ∀ (d D n : Nat) (x : S25), T D n x → n ≤ 100000 → goodV d x = true → okV d x
  | 0, D, n, x, _, _, h => by simp [goodV] at h
  | d + 1, 0, n, x, hT, _, _ => hT.1.elim
  | d + 1, D + 1, n, x, hT, hn, h => by
    obtain ⟨h1, h2⟩ := qB7 h
    have hf := qCd h1
    have hl := hT.len
    exact ⟨hf.1, hf.2.1, hf.2.2.1, hf.2.2.2.1, by have := hT.1.1; omega, by omega, by omega, fun s hs => by have := hT.1.2.2.1 s hs; omega, hf.2.2.2.2.1, fun y hy => qDz d D n y (hT.child hy) hn (h2 y hy)⟩
theorem qHm (n : Int) (h0 : -9007199254740992 ≤ n) (h1 : n ≤ 9007199254740992) : (qA4 (itoaB n)).length ≤ 21 := by
  rw [qBw, itoaB, qGe]
  exact Lib.itoa_length_le n (by omega) (by omega)
theorem qCj (s : ByteArray) : (quoteL s).length ≤ 6 * s.size + 2 := by
  unfold quoteL
  rw [List.length_cons, List.length_append, List.length_singleton]
  have := qGx (qA4 s)
  rw [qBw] at this
  omega
theorem qCp (c : Int) : ∀ l : List (List Int), (joinC c l).length ≤ (l.map (fun p => p.length + 1)).sum
  | [] => by simp [joinC]
  | [x] => by simp [joinC]
  | x :: y :: l => by
    have := qCp c (y :: l)
    simp only [joinC, List.map_cons, List.sum_cons, List.length_append, List.length_cons] at this ⊢
    omega
theorem qCr (f : S25 → List Int) (m : S25 → Nat) (o : Bool) : ∀ (l : List S25) (ks : List ByteArray), (∀ s ∈ ks, s.size ≤ 100) → (∀ y ∈ l, (f y).length + 604 ≤ 1300 * m y) → ((qAq f o l ks).map (fun p => p.length + 1)).sum ≤ 1300 * (l.map m).sum
  | [], ks, _, _ => by simp [qAq]
  | x :: l, [], hk, hf => by
    have := qCr f m o l [] hk (fun y hy => hf y (List.mem_cons_of_mem _ hy))
    have h2 := hf x (List.mem_cons_self ..)
    simp only [qAq, List.map_cons, List.sum_cons]
    omega
  | x :: l, k :: ks, hk, hf => by
    have := qCr f m o l ks (fun s hs => hk s (List.mem_cons_of_mem _ hs)) (fun y hy => hf y (List.mem_cons_of_mem _ hy))
    have h2 := hf x (List.mem_cons_self ..)
    have h3 := qCj k
    have h4 := hk k (List.mem_cons_self ..)
    simp only [qAq, List.map_cons, List.sum_cons]
    cases o
    · simp only [Bool.false_eq_true, if_false]; omega
    · simp only [if_true, List.length_append, List.length_cons]; omega
theorem qCq : ∀ (d D : Nat) (x : S25), tameD D x → goodV d x = true → (textI d x).length + 604 ≤ 1300 * nodesV d x
  | 0, D, x, _, h => by simp [goodV] at h
  | d + 1, 0, x, ht, _ => ht.elim
  | d + 1, D + 1, x, ht, h => by
    obtain ⟨h1, h2⟩ := qB7 h
    have hf := qCd h1
    have hi := qHm x.f2 hf.2.2.1 hf.2.2.2.1
    have hq := qCj x.f3
    have h3 := ht.1
    have hp := fun o => qCr (textI d) (nodesV d) o x.f4 x.f5 ht.2.2.1 (fun y hy => qCq d D y (ht.2.2.2 y hy) (h2 y hy))
    have hj := fun o => qCp 44 (qAq (textI d) o x.f4 x.f5)
    have hp1 := hp true
    have hp2 := hp false
    have hj1 := hj true
    have hj2 := hj false
    rw [nodesV, textI]
    clear hp hj
    split
    · simp; omega
    · split
      · split <;> simp <;> omega
      · split
        · omega
        · split
          · omega
          · split
            · simp only [List.length_cons, List.length_append, List.length_nil]; omega
            · simp only [List.length_cons, List.length_append, List.length_nil]; omega
end Go.Proofs.YtbnoihpooeombaaDoor.X

namespace Go.Proofs.YtbnoihpooeombaaDoor.P
open Go.Proofs.YtbnoihpooeombaaDoor.X
open Go.RowKit Go.Proofs.YtbnoihpooeombaaDoorW.PrintWords Go.Proofs.YtbnoihpooeombaaDoorW.PrintLast Go.Proofs.YtbnoihpooeombaaDoorW.PrintMore
attribute [local go_sem] qAr qAy
set_option linter.unusedVariables false
set_option linter.unusedSimpArgs false
def hogsheadref15_Same.f (k : Nat) (a0_0 : Int) (a0_1 : Bool) (a0_2 : Int) (a0_3 : ByteArray) (l0_4 : List (S25)) (l0_5 : List ByteArray) (a1_0 : Int) (a1_1 : Bool) (a1_2 : Int) (a1_3 : ByteArray) (l1_4 : List (S25)) (l1_5 : List ByteArray) : Option (Bool) := (hogsheadref15_Lay.f k a0_0 a0_1 a0_2 a0_3 l0_4 l0_5).bind fun bt208 => ((hogsheadref15_Lay.f k a1_0 a1_1 a1_2 a1_3 l1_4 l1_5).bind fun bt210 => (if bt208.2 = 0 then (if bt210.2 = 0 then (some (bt208.1.toList == bt210.1.toList)) else (some false)) else (some false)))
end Go.Proofs.YtbnoihpooeombaaDoor.P

namespace Go.Proofs.YtbnoihpooeombaaDoor.X
open Go.RowKit Go.Proofs.YtbnoihpooeombaaDoorW.PrintWords Go.Proofs.YtbnoihpooeombaaDoor.P
set_option linter.unusedVariables false
set_option linter.unusedSimpArgs false
theorem text_1 (d : Nat) (x : S25) (h : x.f0 = 1) : textI (d + 1) x = if x.f1 then [116, 114, 117, 101] else [102, 97, 108, 115, 101] := by rw [textI, if_neg (by omega), if_pos h]
theorem text_2 (d : Nat) (x : S25) (h : x.f0 = 2) : textI (d + 1) x = qA4 (itoaB x.f2) := by rw [textI, if_neg (by omega), if_neg (by omega), if_pos h]
theorem text_4 (d : Nat) (x : S25) (h : x.f0 = 4) : textI (d + 1) x = 91 :: (joinC 44 (x.f4.map (textI d)) ++ [93]) := by rw [textI, if_neg (by omega), if_neg (by omega), if_neg (by omega), if_neg (by omega), if_neg (by omega), qCa]
theorem text_5 (d : Nat) (x : S25) (h : x.f0 = 5) : textI (d + 1) x = 123 :: (joinC 44 (qAq (textI d) true x.f4 x.f5) ++ [125]) := by rw [textI, if_neg (by omega), if_neg (by omega), if_neg (by omega), if_neg (by omega), if_pos h]
theorem qDy (f : S25 → List Int) : ∀ (l : List S25) (ks : List ByteArray), ks.length = l.length → qAq f true l ks = (ks.zip l).map (fun p => quoteL p.1 ++ 58 :: f p.2)
  | [], ks, _ => by simp [qAq]
  | x :: l, [], h => by simp at h
  | x :: l, k :: ks, h => by simp [qAq, qDy f l ks (by simpa using h)]
theorem qHt {D : Nat} {x : S25} (hT : T D 4000 x) (h : goodV 16 x = true) : (textI 16 x).length ≤ 140737488355000 := by
  have h1 := qCq 16 D x hT.1 h
  rw [qCu x h hT.1] at h1
  have := hT.2
  omega
theorem qDg {D : Nat} {x : S25} (hT : T D 4000 x) : value_May.f x.f0 x.f1 x.f2 x.f3 x.f4 x.f5 = some (goodV 16 x) := congrArg some (qB3 D x hT)
theorem qEa {D : Nat} {x : S25} (hT : T D 4000 x) : Ev (fun k => value_Lay.f k x.f0 x.f1 x.f2 x.f3 x.f4 x.f5) (if goodV 16 x = true then (textB 16 x, 0) else (⟨#[]⟩, 2)) := by
  cases h : goodV 16 x with
  | true =>
    obtain ⟨K, hK⟩ := qHu 16 x (qDz 16 D 4000 x hT (by omega) h) (qHt hT h)
    refine ⟨K, fun k hk => ?_⟩
    have hK := hK k hk
    simp only at hK
    show value_Lay.f k _ _ _ _ _ _ = _
    unfold value_Lay.f
    rw [qDg hT, h]
    simp only [Option.bind_some]
    rw [if_pos trivial, hK]
    rfl
  | false =>
    refine ⟨0, fun k hk => ?_⟩
    show value_Lay.f k _ _ _ _ _ _ = _
    unfold value_Lay.f
    rw [qDg hT, h]
    rfl
theorem qDp (f : S25 → S25 → Bool) : ∀ l m, (∀ a ∈ l, ∀ b, f a b = true ↔ a = b) → (allEq f l m = true ↔ l = m)
  | [], [], _ => by simp [allEq]
  | [], _ :: _, _ => by simp [allEq]
  | _ :: _, [], _ => by simp [allEq]
  | x :: l, y :: m, h => by
    rw [allEq, Bool.and_eq_true, h x (List.mem_cons_self ..), qDp f l m (fun a ha => h a (List.mem_cons_of_mem _ ha)), List.cons.injEq]
theorem qEl : ∀ d a b, goodV d a = true → (sameV d a b = true ↔ a = b)
  | 0, a, b, h => by simp [goodV] at h
  | d + 1, a, b, h => by
    have hg := (qB7 h).2
    rw [sameV]
    simp only [Bool.and_eq_true, beq_iff_eq, decide_eq_true_eq]
    rw [qDp (sameV d) a.f4 b.f4 (fun x hx y => qEl d x y (hg x hx)), qBk]
    cases a; cases b
    simp only [S25.mk.injEq]
    constructor
    · rintro ⟨h0, h1, h2, h3, h5, h4⟩; exact ⟨h0, h1, h2, h3, h4, h5⟩
    · rintro ⟨h0, h1, h2, h3, h4, h5⟩; exact ⟨h0, h1, h2, h3, h5, h4⟩
def sameB (a b : S25) : Bool := goodV 16 a && (goodV 16 b && sameV 16 a b)
theorem qHc {D E : Nat} {a b : S25} (ha : T D 4000 a) (hb : T E 4000 b) : value_Same.f a.f0 a.f1 a.f2 a.f3 a.f4 a.f5 b.f0 b.f1 b.f2 b.f3 b.f4 b.f5 = some (sameB a b) := by
  show some ((mayV 16 a 0).2 && ((mayV 16 b 0).2 && sameV 16 a b)) = some _
  rw [qB3 D a ha, qB3 E b hb]
  rfl
end Go.Proofs.YtbnoihpooeombaaDoor.X

namespace Go.Proofs.YtbnoihpooeombaaDoor.P
open Go.Proofs.YtbnoihpooeombaaDoor.X
open Go.RowKit Go.Proofs.YtbnoihpooeombaaDoorW.PrintWords Go.Proofs.YtbnoihpooeombaaDoorW.PrintLast Go.Proofs.YtbnoihpooeombaaDoorW.PrintMore
attribute [local go_sem] qAr qAy
set_option linter.unusedVariables false
set_option linter.unusedSimpArgs false
def cmp_isNaN_string.f (a0 : ByteArray) : Option (Bool) := some (a0.toList != a0.toList)
set_option maxHeartbeats 8000000 in
set_option maxRecDepth 100000 in
theorem cmp_isNaN_string.calls (a0 : ByteArray) (r : Bool) (w : World) (h : cmp_isNaN_string.f a0 = some r) :
  Calls Tryd.prog 98 #[.string a0] w fun e w' => e = .returned (.bool r) ∧ Drawn0 w w' := by
 have H : (some (a0.toList != a0.toList)) = some r := h
 clear h
 obtain rfl := Option.some.inj H
 go_enter Tryd.func98, Tryd.ntmps98
 go_wp2
 go_ret
 exact ⟨by first | rfl | (simp; done) | (simp [*]; done), by repeat (first | exact Drawn0.refl _ | apply Drawn0.step)⟩
end Go.Proofs.YtbnoihpooeombaaDoor.P

namespace Go.Proofs.YtbnoihpooeombaaDoor.P
open Go.Proofs.YtbnoihpooeombaaDoor.X
open Go.RowKit Go.Proofs.YtbnoihpooeombaaDoorW.PrintWords Go.Proofs.YtbnoihpooeombaaDoorW.PrintLast Go.Proofs.YtbnoihpooeombaaDoorW.PrintMore
attribute [local go_sem] qAr qAy
set_option linter.unusedVariables false
set_option linter.unusedSimpArgs false
def cmp_Less_string.f (a0 : ByteArray) (a1 : ByteArray) : Option (Bool) := (cmp_isNaN_string.f a0).bind fun t544 => (if t544 = true then ((cmp_isNaN_string.f a1).bind fun t545 => (if t545 = true then (some (Op.bytesLess a0.toList a1.toList)) else (some true))) else (some (Op.bytesLess a0.toList a1.toList)))
set_option maxHeartbeats 8000000 in
set_option maxRecDepth 100000 in
theorem cmp_Less_string.calls (a0 : ByteArray) (a1 : ByteArray) (r : Bool) (w : World) (h : cmp_Less_string.f a0 a1 = some r) :
  Calls Tryd.prog 70 #[.string a0, .string a1] w fun e w' => e = .returned (.bool r) ∧ Drawn0 w w' := by
 have H : ((cmp_isNaN_string.f a0).bind fun t544 => (if t544 = true then ((cmp_isNaN_string.f a1).bind fun t545 => (if t545 = true then (some (Op.bytesLess a0.toList a1.toList)) else (some true))) else (some (Op.bytesLess a0.toList a1.toList)))) = some r := h
 clear h
 replace H := Option.bind_eq_some_iff.mp H
 obtain ⟨t544, A30, H⟩ := H
 replace H : (if t544 = true then ((cmp_isNaN_string.f a1).bind fun t545 => (if t545 = true then (some (Op.bytesLess a0.toList a1.toList)) else (some true))) else (some (Op.bytesLess a0.toList a1.toList))) = some r := H
 have A3 := Aside0.mk A30
 clear A30
 by_cases c4 : t544 = true
 ·subst c4
  have H1 : ((cmp_isNaN_string.f a1).bind fun t545 => (if t545 = true then (some (Op.bytesLess a0.toList a1.toList)) else (some true))) = some r := by rw [if_pos rfl] at H; exact H
  clear H
  have H := H1
  clear H1
  replace H := Option.bind_eq_some_iff.mp H
  obtain ⟨t545, A50, H⟩ := H
  replace H : (if t545 = true then (some (Op.bytesLess a0.toList a1.toList)) else (some true)) = some r := H
  have A5 := Aside0.mk A50
  clear A50
  by_cases c6 : t545 = true
  ·subst c6
   have H1 : (some (Op.bytesLess a0.toList a1.toList)) = some r := by rw [if_pos rfl] at H; exact H
   clear H
   have H := H1
   clear H1
   obtain rfl := Option.some.inj H
   go_enter Tryd.func70, Tryd.ntmps70
   go_wp2_with (first | ((with_reducible refine qAn (f := 98) rfl ?_); refine goesL_ (some 6) rfl rfl Tryd.func98 (by kernel_rfl) rfl #[.string a0] rfl (by (try simp only [List.map_toArray, List.map_cons, List.map_nil]); first | done | rfl | (simp only [List.length_drop, List.length_take]; rfl)) ?_; (with_reducible refine (cmp_isNaN_string.calls a0 true _ A3.out).mono ?_); rintro e w' ⟨rfl, ⟨nd, rfl⟩⟩; refine ⟨_, rfl, ?_⟩) | (go_at_call 98; (with_reducible refine (cmp_isNaN_string.calls a1 true _ A5.out).mono ?_); rintro e w' ⟨rfl, ⟨nd, rfl⟩⟩))
   go_ret
   exact ⟨by first | rfl | (simp; done) | (simp [*]; done), by repeat (first | exact Drawn0.refl _ | apply Drawn0.step)⟩
  ·replace c6 := Bool.eq_false_iff.mpr c6
   subst c6
   have H1 : (some true) = some r := by rw [if_neg (show ¬ (false = true) by decide)] at H; exact H
   clear H
   have H := H1
   clear H1
   obtain rfl := Option.some.inj H
   go_enter Tryd.func70, Tryd.ntmps70
   go_wp2_with (first | ((with_reducible refine qAn (f := 98) rfl ?_); refine goesL_ (some 6) rfl rfl Tryd.func98 (by kernel_rfl) rfl #[.string a0] rfl (by (try simp only [List.map_toArray, List.map_cons, List.map_nil]); first | done | rfl | (simp only [List.length_drop, List.length_take]; rfl)) ?_; (with_reducible refine (cmp_isNaN_string.calls a0 true _ A3.out).mono ?_); rintro e w' ⟨rfl, ⟨nd, rfl⟩⟩; refine ⟨_, rfl, ?_⟩) | (go_at_call 98; (with_reducible refine (cmp_isNaN_string.calls a1 false _ A5.out).mono ?_); rintro e w' ⟨rfl, ⟨nd, rfl⟩⟩))
   go_ret
   exact ⟨by first | rfl | (simp; done) | (simp [*]; done), by repeat (first | exact Drawn0.refl _ | apply Drawn0.step)⟩
 ·replace c4 := Bool.eq_false_iff.mpr c4
  subst c4
  have H1 : (some (Op.bytesLess a0.toList a1.toList)) = some r := by rw [if_neg (show ¬ (false = true) by decide)] at H; exact H
  clear H
  have H := H1
  clear H1
  obtain rfl := Option.some.inj H
  go_enter Tryd.func70, Tryd.ntmps70
  go_wp2_with (first | ((with_reducible refine qAn (f := 98) rfl ?_); refine goesL_ (some 6) rfl rfl Tryd.func98 (by kernel_rfl) rfl #[.string a0] rfl (by (try simp only [List.map_toArray, List.map_cons, List.map_nil]); first | done | rfl | (simp only [List.length_drop, List.length_take]; rfl)) ?_; (with_reducible refine (cmp_isNaN_string.calls a0 false _ A3.out).mono ?_); rintro e w' ⟨rfl, ⟨nd, rfl⟩⟩; refine ⟨_, rfl, ?_⟩))
  go_ret
  exact ⟨by first | rfl | (simp; done) | (simp [*]; done), by repeat (first | exact Drawn0.refl _ | apply Drawn0.step)⟩
end Go.Proofs.YtbnoihpooeombaaDoor.P

namespace Go.Proofs.YtbnoihpooeombaaDoor.P
open Go.Proofs.YtbnoihpooeombaaDoor.X
open Go.RowKit Go.Proofs.YtbnoihpooeombaaDoorW.PrintWords Go.Proofs.YtbnoihpooeombaaDoorW.PrintLast Go.Proofs.YtbnoihpooeombaaDoorW.PrintMore
attribute [local go_sem] qAr qAy
set_option linter.unusedVariables false
set_option linter.unusedSimpArgs false
def slices_isNaN_string.f (a0 : ByteArray) : Option (Bool) := some (a0.toList != a0.toList)
set_option maxHeartbeats 8000000 in
set_option maxRecDepth 100000 in
theorem slices_isNaN_string.calls (a0 : ByteArray) (r : Bool) (w : World) (h : slices_isNaN_string.f a0 = some r) :
  Calls Tryd.prog 71 #[.string a0] w fun e w' => e = .returned (.bool r) ∧ Drawn0 w w' := by
 have H : (some (a0.toList != a0.toList)) = some r := h
 clear h
 obtain rfl := Option.some.inj H
 go_enter Tryd.func71, Tryd.ntmps71
 go_wp2
 go_ret
 exact ⟨by first | rfl | (simp; done) | (simp [*]; done), by repeat (first | exact Drawn0.refl _ | apply Drawn0.step)⟩
end Go.Proofs.YtbnoihpooeombaaDoor.P

namespace Go.Proofs.YtbnoihpooeombaaDoor.P
open Go.Proofs.YtbnoihpooeombaaDoor.X
open Go.RowKit Go.Proofs.YtbnoihpooeombaaDoorW.PrintWords Go.Proofs.YtbnoihpooeombaaDoorW.PrintLast Go.Proofs.YtbnoihpooeombaaDoorW.PrintMore
attribute [local go_sem] qAr qAy
set_option linter.unusedVariables false
set_option linter.unusedSimpArgs false
def slices_BinarySearch_string_string.l0 : Nat → List ByteArray → ByteArray → Int → Int → Int → Option (Int × Bool)
 | 0, _, _, _, _, _ => none
 | k + 1, x0, x1, x6, x7, x8 => if x7 < x8 then (if 0 ≤ (wrap64 ((IntKind.u64.wrap (wrap64 (x7 + x8))) / 2)) then (if (wrap64 ((IntKind.u64.wrap (wrap64 (x7 + x8))) / 2)) < (x0.length : Int) then ((cmp_Less_string.f (rdOf ByteArray.empty x0 (wrap64 ((IntKind.u64.wrap (wrap64 (x7 + x8))) / 2))) x1).bind fun t547 => (if t547 = true then (slices_BinarySearch_string_string.l0 k x0 x1 x6 (wrap64 ((wrap64 ((IntKind.u64.wrap (wrap64 (x7 + x8))) / 2)) + 1)) x8) else (slices_BinarySearch_string_string.l0 k x0 x1 x6 x7 (wrap64 ((IntKind.u64.wrap (wrap64 (x7 + x8))) / 2))))) else (none)) else (none)) else (if x7 < x6 then (if 0 ≤ x7 then (if x7 < (x0.length : Int) then (if (rdOf ByteArray.empty x0 x7).toList = x1.toList then (some (x7, true)) else ((slices_isNaN_string.f (rdOf ByteArray.empty x0 x7)).bind fun t550 => (if t550 = true then ((slices_isNaN_string.f x1).bind fun t551 => (some (x7, t551))) else (some (x7, false))))) else (none)) else (none)) else (some (x7, false)))
def slices_BinarySearch_string_string.f (k : Nat) (l0 : List ByteArray) (a1 : ByteArray) : Option (Int × Bool) := slices_BinarySearch_string_string.l0 k l0 a1 (l0.length : Int) 0 (l0.length : Int)
theorem slices_BinarySearch_string_string.mono_l : ∀ k, (∀ y0 y1 y2 y3 y4, LeO (slices_BinarySearch_string_string.l0 k y0 y1 y2 y3 y4) (slices_BinarySearch_string_string.l0 (k + 1) y0 y1 y2 y3 y4))
 | 0 => fun _ _ _ _ _ r h => by simp [slices_BinarySearch_string_string.l0] at h
 | k + 1 => by
  have ih0 := slices_BinarySearch_string_string.mono_l k
  ·intro y0 y1 y2 y3 y4
   unfold slices_BinarySearch_string_string.l0
   repeat' first
   | (with_reducible exact ih0 _ _ _ _ _)
   | (with_reducible exact LeO.refl _)
   | (with_reducible exact LeO.none _)
   | (with_reducible refine LeO.ite ?_ ?_)
   | (with_reducible refine LeO.bind ?_ (fun _ => ?_))
   | exact ih0 _ _ _ _ _
   | exact LeO.none _
   | refine LeO.ite ?_ ?_
   | refine LeO.bind ?_ (fun _ => ?_)
theorem slices_BinarySearch_string_string.mono : ∀ a0 a1 k, LeO (slices_BinarySearch_string_string.f k a0 a1) (slices_BinarySearch_string_string.f (k + 1) a0 a1) := by
 intro a0 a1 k
 have ih0 := slices_BinarySearch_string_string.mono_l k
 unfold slices_BinarySearch_string_string.f
 repeat' first
   | (with_reducible exact ih0 _ _ _ _ _)
   | (with_reducible exact LeO.refl _)
   | (with_reducible exact LeO.none _)
   | (with_reducible refine LeO.ite ?_ ?_)
   | (with_reducible refine LeO.bind ?_ (fun _ => ?_))
   | exact ih0 _ _ _ _ _
   | exact LeO.none _
   | refine LeO.ite ?_ ?_
   | refine LeO.bind ?_ (fun _ => ?_)
set_option maxHeartbeats 8000000 in
set_option maxRecDepth 100000 in
theorem slices_BinarySearch_string_string.calls (k : Nat) (A0 : Option Addr) (c0 : Nat) (l0 : List ByteArray) (a1 : ByteArray) (r1 : Int) (r2 : Bool) (w : World) (hr0 : Kd.C Kd.string w A0 l0.length l0) (hc0 : l0.length ≤ c0) (h : slices_BinarySearch_string_string.f k l0 a1 = some (r1, r2)) :
  Calls Tryd.prog 49 #[.slice A0 l0.length c0, .string a1] w fun e w' => e = .returned (.tuple #[.int .i64 r1, .bool r2]) ∧ Drawn0 w w' := by
 have HR0 := Aside0.mk hr0
 have HC0 := Aside0.mk hc0
 clear hr0 hc0
 have H : (slices_BinarySearch_string_string.l0 k l0 a1 (l0.length : Int) 0 (l0.length : Int)) = some (r1, r2) := h
 clear h
 have H' := Aside0.mk H
 clear H
 go_enter Tryd.func49, Tryd.ntmps49
 go_wp2
 go_loopg [7, 8] k (fun kq v7 v8 w' => ∃ (x7_1 : Int) (x8_1 : Int), v7 = .int .i64 x7_1 ∧ v8 = .int .i64 x8_1 ∧ Aside0 (slices_BinarySearch_string_string.l0 kq l0 a1 (l0.length : Int) x7_1 x8_1 = some (r1, r2)) ∧ Aside0 (kq ≤ k) ∧ Drawn0 w w')
 case atStart => exact ⟨(0), ((l0.length : Int)), (by first | rfl | (simp; done) | (simp [*]; done) | exact congrArg Value.bool (nil_ne _) | exact congrArg Value.bool (nil_eq _) | exact congrArg Value.bool (nil_ne' _)), (by first | rfl | (simp; done) | (simp [*]; done) | exact congrArg Value.bool (nil_ne _) | exact congrArg Value.bool (nil_eq _) | exact congrArg Value.bool (nil_ne' _)), H', ⟨Nat.le_refl _⟩, by repeat (first | exact Drawn0.refl _ | apply Drawn0.step)⟩
 case round =>
  clear H'
  try clear p2
  obtain ⟨x7_1, x8_1, rfl, rfl, HA, HK1, ⟨m1, rfl⟩⟩ := hrel
  cases gk with
  | zero => exact absurd HA.out (by simp [slices_BinarySearch_string_string.l0])
  | succ k1 =>
   have H := HA.out
   clear HA
   simp only [slices_BinarySearch_string_string.l0] at H
   by_cases c3 : x7_1 < x8_1
   ·rw [if_pos c3] at H
    have c3b0 : decide (x7_1 < x8_1) = true := decide_eq_true c3
    clear c3
    obtain ⟨ji4, hji4⟩ : ∃ j_ : Int, (wrap64 ((IntKind.u64.wrap (wrap64 (x7_1 + x8_1))) / 2)) = j_ := ⟨_, rfl⟩
    replace H : (if 0 ≤ (ji4) then (if (ji4) < (l0.length : Int) then ((cmp_Less_string.f (rdOf ByteArray.empty l0 (ji4)) a1).bind fun t547 => (if t547 = true then (slices_BinarySearch_string_string.l0 k1 l0 a1 (l0.length : Int) (wrap64 ((ji4) + 1)) x8_1) else (slices_BinarySearch_string_string.l0 k1 l0 a1 (l0.length : Int) x7_1 ji4))) else (none)) else (none)) = some (r1, r2) := by first | (rw [hji4] at H; exact H) | (simp only [hji4] at H ⊢; exact H)
    have hji4w : (IntKind.i64.wrap ((IntKind.u64.wrap (wrap64 (x7_1 + x8_1))) / 2)) = ji4 := (i64_w _).trans hji4
    by_cases c5 : 0 ≤ (ji4)
    ·rw [if_pos c5] at H
     have c5b0 : decide (0 ≤ (ji4)) = true := decide_eq_true c5
     clear c5
     by_cases c6 : (ji4) < (l0.length : Int)
     ·rw [if_pos c6] at H
      have c6b0 : decide ((ji4) < (l0.length : Int)) = true := decide_eq_true c6
      clear c6
      replace H := Option.bind_eq_some_iff.mp H
      obtain ⟨t547, A70, H⟩ := H
      replace H : (if t547 = true then (slices_BinarySearch_string_string.l0 k1 l0 a1 (l0.length : Int) (wrap64 ((ji4) + 1)) x8_1) else (slices_BinarySearch_string_string.l0 k1 l0 a1 (l0.length : Int) x7_1 ji4)) = some (r1, r2) := H
      have A7 := Aside0.mk A70
      clear A70
      by_cases c8 : t547 = true
      ·subst c8
       have H1 : (slices_BinarySearch_string_string.l0 k1 l0 a1 (l0.length : Int) (wrap64 ((ji4) + 1)) x8_1) = some (r1, r2) := by rw [if_pos rfl] at H; exact H
       clear H
       have H := H1
       clear H1
       have H' := Aside0.mk H
       clear H
       have p546 : 0 ≤ ((ji4) : Int) := of_decide_eq_true (by first | (with_reducible assumption) | assumption)
       have q546 : (ji4) < (l0.length : Int) := of_decide_eq_true (by first | (with_reducible assumption) | assumption)
       obtain ⟨ad546, e546, hx546_0⟩ := Kd.at_string HR0.out (ji4) p546 q546
       cases e546
       replace p546 := eq_true p546
       replace q546 := eq_true q546
       go_wp2_with (first | ((with_reducible refine qAn (f := 70) rfl ?_); refine goesL_ (some 27) rfl rfl Tryd.func70 (by kernel_rfl) rfl #[.string (rdOf ByteArray.empty l0 (ji4)), .string a1] rfl (by (try simp only [List.map_toArray, List.map_cons, List.map_nil]); first | done | (simp only [hji4]; rfl) | rfl | (simp only [List.length_drop, List.length_take]; rfl)) ?_; (with_reducible refine (cmp_Less_string.calls (rdOf ByteArray.empty l0 (ji4)) a1 true _ A7.out).mono ?_); rintro e w' ⟨rfl, ⟨nd, rfl⟩⟩; refine ⟨_, rfl, ?_⟩))
       go_roundg k1
       case measure => have := HK1.out; omega
       case rel => exact ⟨(wrap64 ((ji4) + 1)), (x8_1), (by first | rfl | (simp; done) | (simp only [← hji4] <;> (first | rfl | simp)) | (simp [*]; done)), (by first | rfl | (simp; done) | (simp [*]; done) | exact congrArg Value.bool (nil_ne _) | exact congrArg Value.bool (nil_eq _) | exact congrArg Value.bool (nil_ne' _)), H', ⟨by have := HK1.out; omega⟩, by repeat (first | exact Drawn0.refl _ | apply Drawn0.step)⟩
      ·replace c8 := Bool.eq_false_iff.mpr c8
       subst c8
       have H1 : (slices_BinarySearch_string_string.l0 k1 l0 a1 (l0.length : Int) x7_1 ji4) = some (r1, r2) := by rw [if_neg (show ¬ (false = true) by decide)] at H; exact H
       clear H
       have H := H1
       clear H1
       have H' := Aside0.mk H
       clear H
       have p546 : 0 ≤ ((ji4) : Int) := of_decide_eq_true (by first | (with_reducible assumption) | assumption)
       have q546 : (ji4) < (l0.length : Int) := of_decide_eq_true (by first | (with_reducible assumption) | assumption)
       obtain ⟨ad546, e546, hx546_0⟩ := Kd.at_string HR0.out (ji4) p546 q546
       cases e546
       replace p546 := eq_true p546
       replace q546 := eq_true q546
       go_wp2_with (first | ((with_reducible refine qAn (f := 70) rfl ?_); refine goesL_ (some 27) rfl rfl Tryd.func70 (by kernel_rfl) rfl #[.string (rdOf ByteArray.empty l0 (ji4)), .string a1] rfl (by (try simp only [List.map_toArray, List.map_cons, List.map_nil]); first | done | (simp only [hji4]; rfl) | rfl | (simp only [List.length_drop, List.length_take]; rfl)) ?_; (with_reducible refine (cmp_Less_string.calls (rdOf ByteArray.empty l0 (ji4)) a1 false _ A7.out).mono ?_); rintro e w' ⟨rfl, ⟨nd, rfl⟩⟩; refine ⟨_, rfl, ?_⟩))
       go_roundg k1
       case measure => have := HK1.out; omega
       case rel => exact ⟨(x7_1), (ji4), (by first | rfl | (simp; done) | (simp [*]; done) | exact congrArg Value.bool (nil_ne _) | exact congrArg Value.bool (nil_eq _) | exact congrArg Value.bool (nil_ne' _)), (by first | rfl | (simp; done) | (simp only [← hji4] <;> (first | rfl | simp)) | (simp [*]; done)), H', ⟨by have := HK1.out; omega⟩, by repeat (first | exact Drawn0.refl _ | apply Drawn0.step)⟩
     ·rw [if_neg c6] at H
      exact absurd H (by simp)
    ·rw [if_neg c5] at H
     exact absurd H (by simp)
   ·rw [if_neg c3] at H
    have c3b0 : decide (x7_1 < x8_1) = false := decide_eq_false c3
    clear c3
    by_cases c9 : x7_1 < (l0.length : Int)
    ·rw [if_pos c9] at H
     have c9b0 : decide (x7_1 < (l0.length : Int)) = true := decide_eq_true c9
     clear c9
     by_cases c10 : 0 ≤ x7_1
     ·rw [if_pos c10] at H
      have c10b0 : decide (0 ≤ x7_1) = true := decide_eq_true c10
      clear c10
      by_cases c11 : x7_1 < (l0.length : Int)
      ·rw [if_pos c11] at H
       have c11b0 : decide (x7_1 < (l0.length : Int)) = true := decide_eq_true c11
       clear c11
       by_cases c12 : (rdOf ByteArray.empty l0 x7_1).toList = a1.toList
       ·rw [if_pos c12] at H
        have c12b0 : ((rdOf ByteArray.empty l0 x7_1).toList == a1.toList) = true := beq_iff_eq.mpr c12
        have c12b1 : ((rdOf ByteArray.empty l0 x7_1).toList != a1.toList) = false := bne_eq_false_iff_eq.mpr c12
        clear c12
        simp only [Option.some.injEq, Prod.mk.injEq] at H
        obtain ⟨rfl, rfl⟩ := H
        have p548 : 0 ≤ (x7_1 : Int) := of_decide_eq_true (by first | (with_reducible assumption) | assumption)
        have q548 : x7_1 < (l0.length : Int) := of_decide_eq_true (by first | (with_reducible assumption) | assumption)
        obtain ⟨ad548, e548, hx548_0⟩ := Kd.at_string HR0.out x7_1 p548 q548
        cases e548
        replace p548 := eq_true p548
        replace q548 := eq_true q548
        go_wp2
        go_ret2
        exact ⟨by first | rfl | (simp; done) | (simp [*]; done), by repeat (first | exact Drawn0.refl _ | apply Drawn0.step)⟩
       ·rw [if_neg c12] at H
        have c12b0 : ((rdOf ByteArray.empty l0 x7_1).toList == a1.toList) = false := beq_eq_false_iff_ne.mpr c12
        have c12b1 : ((rdOf ByteArray.empty l0 x7_1).toList != a1.toList) = true := bne_iff_ne.mpr c12
        replace H := Option.bind_eq_some_iff.mp H
        obtain ⟨t550, A130, H⟩ := H
        replace H : (if t550 = true then ((slices_isNaN_string.f a1).bind fun t551 => (some (x7_1, t551))) else (some (x7_1, false))) = some (r1, r2) := H
        have A13 := Aside0.mk A130
        clear A130
        by_cases c14 : t550 = true
        ·subst c14
         have H1 : ((slices_isNaN_string.f a1).bind fun t551 => (some (x7_1, t551))) = some (r1, r2) := by rw [if_pos rfl] at H; exact H
         clear H
         have H := H1
         clear H1
         replace H := Option.bind_eq_some_iff.mp H
         obtain ⟨t551, A150, H⟩ := H
         replace H : (some (x7_1, t551)) = some (r1, r2) := H
         have A15 := Aside0.mk A150
         clear A150
         simp only [Option.some.injEq, Prod.mk.injEq] at H
         obtain ⟨rfl, rfl⟩ := H
         have p548 : 0 ≤ (x7_1 : Int) := of_decide_eq_true (by first | (with_reducible assumption) | assumption)
         have q548 : x7_1 < (l0.length : Int) := of_decide_eq_true (by first | (with_reducible assumption) | assumption)
         obtain ⟨ad548, e548, hx548_0⟩ := Kd.at_string HR0.out x7_1 p548 q548
         cases e548
         replace p548 := eq_true p548
         replace q548 := eq_true q548
         have p549 : 0 ≤ (x7_1 : Int) := of_decide_eq_true (by first | (with_reducible assumption) | assumption)
         have q549 : x7_1 < (l0.length : Int) := of_decide_eq_true (by first | (with_reducible assumption) | assumption)
         obtain ⟨ad549, e549, hx549_0⟩ := Kd.at_string HR0.out x7_1 p549 q549
         obtain rfl : ad548 = ad549 := (by injection e549)
         replace p549 := eq_true p549
         replace q549 := eq_true q549
         go_wp2_with (first | (go_at_call 71; (with_reducible refine (slices_isNaN_string.calls (rdOf ByteArray.empty l0 x7_1) true _ A13.out).mono ?_); rintro e w' ⟨rfl, ⟨nd, rfl⟩⟩) | (go_at_call 71; (with_reducible refine (slices_isNaN_string.calls a1 t551 _ A15.out).mono ?_); rintro e w' ⟨rfl, ⟨nd, rfl⟩⟩))
         go_ret2
         exact ⟨by first | rfl | (simp; done) | (simp [*]; done), by repeat (first | exact Drawn0.refl _ | apply Drawn0.step)⟩
        ·replace c14 := Bool.eq_false_iff.mpr c14
         subst c14
         have H1 : (some (x7_1, false)) = some (r1, r2) := by rw [if_neg (show ¬ (false = true) by decide)] at H; exact H
         clear H
         have H := H1
         clear H1
         simp only [Option.some.injEq, Prod.mk.injEq] at H
         obtain ⟨rfl, rfl⟩ := H
         have p548 : 0 ≤ (x7_1 : Int) := of_decide_eq_true (by first | (with_reducible assumption) | assumption)
         have q548 : x7_1 < (l0.length : Int) := of_decide_eq_true (by first | (with_reducible assumption) | assumption)
         obtain ⟨ad548, e548, hx548_0⟩ := Kd.at_string HR0.out x7_1 p548 q548
         cases e548
         replace p548 := eq_true p548
         replace q548 := eq_true q548
         have p549 : 0 ≤ (x7_1 : Int) := of_decide_eq_true (by first | (with_reducible assumption) | assumption)
         have q549 : x7_1 < (l0.length : Int) := of_decide_eq_true (by first | (with_reducible assumption) | assumption)
         obtain ⟨ad549, e549, hx549_0⟩ := Kd.at_string HR0.out x7_1 p549 q549
         obtain rfl : ad548 = ad549 := (by injection e549)
         replace p549 := eq_true p549
         replace q549 := eq_true q549
         go_wp2_with (first | (go_at_call 71; (with_reducible refine (slices_isNaN_string.calls (rdOf ByteArray.empty l0 x7_1) false _ A13.out).mono ?_); rintro e w' ⟨rfl, ⟨nd, rfl⟩⟩))
         go_ret2
         exact ⟨by first | rfl | (simp; done) | (simp [*]; done), by repeat (first | exact Drawn0.refl _ | apply Drawn0.step)⟩
      ·rw [if_neg c11] at H
       exact absurd H (by simp)
     ·rw [if_neg c10] at H
      exact absurd H (by simp)
    ·rw [if_neg c9] at H
     have c9b0 : decide (x7_1 < (l0.length : Int)) = false := decide_eq_false c9
     clear c9
     simp only [Option.some.injEq, Prod.mk.injEq] at H
     obtain ⟨rfl, rfl⟩ := H
     go_wp2
     go_ret2
     exact ⟨by first | rfl | (simp; done) | (simp [*]; done), by repeat (first | exact Drawn0.refl _ | apply Drawn0.step)⟩
end Go.Proofs.YtbnoihpooeombaaDoor.P

namespace Go.Proofs.YtbnoihpooeombaaDoor.X
open Go.RowKit Go.Proofs.YtbnoihpooeombaaDoorW.PrintWords Go.Proofs.YtbnoihpooeombaaDoor.P
set_option linter.unusedVariables false
set_option linter.unusedSimpArgs false
theorem qEv : ∀ a : List UInt8, Op.bytesLess a a = false
  | [] => rfl
  | x :: a => by rw [Op.bytesLess]; simp [qEv a]
theorem qFr : ∀ a b c : List UInt8, Op.bytesLess a b = true → Op.bytesLess b c = true → Op.bytesLess a c = true
  | _, [], _, h, _ => by cases a : ‹List UInt8› <;> simp [Op.bytesLess] at h
  | _, _ :: _, [], _, h => by simp [Op.bytesLess] at h
  | [], _ :: _, _ :: _, _, _ => rfl
  | x :: a, y :: b, z :: c, h, k => by
    rw [Op.bytesLess] at h k ⊢
    simp only [Bool.or_eq_true, Bool.and_eq_true, decide_eq_true_eq, beq_iff_eq] at h k ⊢
    rcases h with h | ⟨h1, h2⟩
    · rcases k with k | ⟨k1, k2⟩
      · exact .inl (UInt8.lt_trans h k)
      · exact .inl (k1 ▸ h)
    · rcases k with k | ⟨k1, k2⟩
      · exact .inl (h1 ▸ k)
      · exact .inr ⟨h1.trans k1, qFr a b c h2 k2⟩
theorem qFs : ∀ a b : List UInt8, Op.bytesLess a b = false → Op.bytesLess b a = false → a = b
  | [], [], _, _ => rfl
  | [], _ :: _, h, _ => by simp [Op.bytesLess] at h
  | _ :: _, [], _, h => by simp [Op.bytesLess] at h
  | x :: a, y :: b, h, k => by
    rw [Op.bytesLess] at h k
    simp only [Bool.or_eq_false_iff, Bool.and_eq_false_iff, decide_eq_false_iff_not, beq_eq_false_iff_ne] at h k
    have hxy : x = y := by
      rcases UInt8.lt_or_lt_of_ne (a := x) (b := y) with h1
      exact Classical.byContradiction fun e => (h1 e).elim h.1 k.1
    subst hxy
    rw [qFs a b (h.2.resolve_left (fun e => e rfl)) (k.2.resolve_left (fun e => e rfl))]
def lessB (a b : ByteArray) : Bool := Op.bytesLess a.toList b.toList
theorem qE4 (a : ByteArray) : lessB a a = false := qEv _
theorem qCw {a b c : ByteArray} (h : lessB a b = true) (k : lessB b c = true) : lessB a c = true := qFr _ _ _ h k
theorem qF2 {a b : ByteArray} (h : lessB a b = false) (k : lessB b a = false) : a = b := (qBk a b).1 (qFs _ _ h k)
theorem qBr {a : ByteArray} {l : List ByteArray} (h : qAx (a :: l) = true) : qAx l = true ∧ ∀ s ∈ l, lessB a s = true := by
  induction l generalizing a with
  | nil => exact ⟨rfl, fun s hs => by cases hs⟩
  | cons b l ih =>
    rw [qAx, Bool.and_eq_true] at h
    obtain ⟨h1, h2⟩ := h
    refine ⟨h2, fun s hs => ?_⟩
    rcases List.mem_cons.1 hs with rfl | hs
    · exact h1
    · exact qCw h1 ((ih h2).2 s hs)
theorem qDa {a : ByteArray} {l : List ByteArray} (h : qAx l = true) (ha : ∀ s ∈ l, lessB a s = true) : qAx (a :: l) = true := by
  cases l with
  | nil => rfl
  | cons b l => rw [qAx, Bool.and_eq_true]; exact ⟨ha b (List.mem_cons_self ..), h⟩
def posK (K : List ByteArray) (key : ByteArray) : Nat := (K.takeWhile (fun s => lessB s key)).length
theorem qGl (K : List ByteArray) (key : ByteArray) : posK K key ≤ K.length := by
  unfold posK
  exact (List.takeWhile_prefix _).length_le
theorem qC5 : ∀ (K : List ByteArray) (key : ByteArray), qAx K = true → ∀ (i : Nat) (h : i < K.length), lessB K[i] key = true ↔ i < posK K key
  | [], key, _, i, h => by simp at h
  | a :: K, key, hr, i, h => by
    obtain ⟨h1, h2⟩ := qBr hr
    unfold posK
    by_cases c : lessB a key = true
    · rw [List.takeWhile_cons_of_pos (p := fun s => lessB s key) c, List.length_cons]
      cases i with
      | zero => exact ⟨fun _ => by omega, fun _ => c⟩
      | succ i =>
        have := qC5 K key h1 i (by simpa using h)
        unfold posK at this
        rw [List.getElem_cons_succ, this]
        omega
    · rw [List.takeWhile_cons_of_neg (p := fun s => lessB s key) c]
      cases i with
      | zero => exact ⟨fun h => absurd h c, fun h => by simp at h⟩
      | succ i =>
        rw [List.getElem_cons_succ]
        refine ⟨fun h' => absurd (qCw (h2 _ (List.getElem_mem _)) h') c, fun h => by simp at h⟩
def isK (K : List ByteArray) (key : ByteArray) : Bool := decide (∃ h : posK K key < K.length, K[posK K key] = key)
theorem qE6 (K : List ByteArray) (key : ByteArray) (hr : qAx K = true) : isK K key = true ↔ key ∈ K := by
  unfold isK
  rw [decide_eq_true_eq]
  constructor
  · rintro ⟨h, e⟩
    exact e ▸ List.getElem_mem h
  · intro h
    obtain ⟨i, hi, e⟩ := List.mem_iff_getElem.1 h
    have h1 := qC5 K key hr i hi
    rw [e, qE4] at h1
    have h2 : ¬ i < posK K key := fun h => by simpa using h1.2 h
    have hp : posK K key = i := by
      rcases Nat.lt_or_ge (posK K key) i with h3 | h3
      · exfalso
        have h4 := qC5 K key hr (posK K key) (by omega)
        have h5 : lessB K[posK K key] key = false := by
          cases e : lessB (K[posK K key]'(by omega)) key with
          | false => rfl
          | true => exact absurd (h4.1 e) (by omega)
        have h6 : lessB (K[posK K key]'(by omega)) K[i] = true := by
          have : ∀ (K : List ByteArray), qAx K = true → ∀ (p q : Nat) (hq : q < K.length) (hpq : p < q), lessB (K[p]'(by omega)) K[q] = true := by
            intro K
            induction K with
            | nil => intro _ p q hq; simp at hq
            | cons a K ih =>
              intro hr p q hq hpq
              obtain ⟨h1, h2⟩ := qBr hr
              cases q with
              | zero => omega
              | succ q =>
                cases p with
                | zero => exact h2 _ (List.getElem_mem _)
                | succ p => exact ih h1 p q (by simpa using hq) (by omega)
          exact this K hr _ _ hi h3
        rw [e, h5] at h6
        cases h6
      · omega
    exact ⟨by omega, by simp only [hp]; exact e⟩
theorem qGg (K : List ByteArray) (key : ByteArray) (hr : qAx K = true) (hn : K.length ≤ 1000000) : ∀ (d lo hi : Nat), hi - lo ≤ d → lo ≤ posK K key → posK K key ≤ hi → hi ≤ K.length →
    Ev (fun k => slices_BinarySearch_string_string.l0 k K key (K.length : Int) (lo : Int) (hi : Int)) ((posK K key : Int), isK K key) := by
  intro d
  induction d with
  | zero =>
    intro lo hi hd h1 h2 h3
    obtain rfl : lo = hi := by omega
    have hp : posK K key = lo := by omega
    refine ⟨1, fun k hk => ?_⟩
    obtain ⟨k, rfl⟩ : ∃ m, k = m + 1 := ⟨k - 1, by omega⟩
    simp only [slices_BinarySearch_string_string.l0]
    rw [if_neg (by omega)]
    unfold isK
    by_cases c : lo < K.length
    · rw [if_pos (by omega), if_pos (by omega), if_pos (by omega), qA3 K lo c]
      by_cases e : K[lo] = key
      · rw [if_pos ((qBk _ _).2 e), hp, decide_eq_true ⟨c, e⟩]
      · rw [if_neg (fun h => e ((qBk _ _).1 h)), hp, decide_eq_false (fun ⟨_, h⟩ => e h)]
        simp [slices_isNaN_string.f]
    · rw [if_neg (by omega), hp, decide_eq_false (fun ⟨h, _⟩ => c (by omega))]
  | succ d ih =>
    intro lo hi hd h1 h2 h3
    by_cases c : lo < hi
    · obtain ⟨m, hm⟩ : ∃ m : Nat, m = (lo + hi) / 2 := ⟨_, rfl⟩
      have hm1 : lo ≤ m := by omega
      have hm2 : m < hi := by omega
      have E1 : Aside0 (wrap64 ((IntKind.u64.wrap (wrap64 ((lo : Int) + (hi : Int)))) / 2) = (m : Int)) := ⟨by
        have e1 : wrap64 ((lo : Int) + (hi : Int)) = ((lo + hi : Nat) : Int) := qBm (by omega) (by omega)
        rw [e1]
        have e2 : IntKind.u64.wrap ((lo + hi : Nat) : Int) = ((lo + hi : Nat) : Int) := by
          clear e1
          simp [IntKind.wrap, IntKind.bits, IntKind.signed]
          omega
        rw [e2]
        clear e1 e2
        exact qBm (by omega) (by omega)⟩
      have E2 : Aside0 (wrap64 ((m : Int) + 1) = ((m + 1 : Nat) : Int)) := ⟨qBm (by omega) (by omega)⟩
      have hlt : m < K.length := by omega
      have hcmp := qC5 K key hr m hlt
      have hless : cmp_Less_string.f K[m] key = some (lessB K[m] key) := by
        unfold cmp_Less_string.f cmp_isNaN_string.f
        simp [lessB]
      cases hb : lessB K[m] key with
      | true =>
        obtain ⟨K1, hK⟩ := ih (m + 1) hi (by omega) (by have := hcmp.1 hb; omega) h2 h3
        refine ⟨K1 + 1, fun k hk => ?_⟩
        obtain ⟨k, rfl⟩ : ∃ m, k = m + 1 := ⟨k - 1, by omega⟩
        have hK := hK k (by omega)
        simp only at hK
        simp only [slices_BinarySearch_string_string.l0]
        rw [if_pos (by omega), E1.out, if_pos (by omega), if_pos (by omega), qA3 K m hlt, hless, hb]
        simp only [Option.bind_some]
        rw [if_pos trivial, E2.out]
        exact hK
      | false =>
        have hnp : ¬ m < posK K key := fun h => by have := hcmp.2 h; rw [hb] at this; cases this
        obtain ⟨K1, hK⟩ := ih lo m (by omega) h1 (by omega) (by omega)
        refine ⟨K1 + 1, fun k hk => ?_⟩
        obtain ⟨k, rfl⟩ : ∃ m, k = m + 1 := ⟨k - 1, by omega⟩
        have hK := hK k (by omega)
        simp only at hK
        simp only [slices_BinarySearch_string_string.l0]
        rw [if_pos (by omega), E1.out, if_pos (by omega), if_pos (by omega), qA3 K m hlt, hless, hb]
        simp only [Option.bind_some]
        rw [if_neg (by decide)]
        exact hK
    · exact ih lo hi (by omega) h1 h2 h3
theorem qEj (K : List ByteArray) (key : ByteArray) (hr : qAx K = true) (hn : K.length ≤ 1000000) : Ev (fun k => slices_BinarySearch_string_string.f k K key) ((posK K key : Int), isK K key) :=
  qGg K key hr hn K.length 0 K.length (by omega) (by omega) (qGl K key) (by omega)
end Go.Proofs.YtbnoihpooeombaaDoor.X

namespace Go.Proofs.YtbnoihpooeombaaDoor.X
open Go.RowKit Go.Proofs.YtbnoihpooeombaaDoorW.PrintWords Go.Proofs.YtbnoihpooeombaaDoorW.PrintLast Go.Proofs.YtbnoihpooeombaaDoorW.PrintMore Go.Proofs.YtbnoihpooeombaaDoor.P
set_option linter.unusedVariables false
set_option linter.unusedSimpArgs false
def value_Get.f (k : Nat) (a0_0 : Int) (a0_1 : Bool) (a0_2 : Int) (a0_3 : ByteArray) (l0_4 : List S25) (l0_5 : List ByteArray) (a1 : ByteArray) : Option (Int × Bool × Int × ByteArray × List S25 × List ByteArray × Bool) :=
  if a0_0 = 5 then
    if (mayV 16 ⟨a0_0, a0_1, a0_2, a0_3, l0_4, l0_5⟩ 0).2 = true then
      (slices_BinarySearch_string_string.f k l0_5 a1).bind fun q => if q.2 = true then (if 0 ≤ q.1 ∧ q.1 < (l0_4.length : Int) then some ((rd_T25 l0_4 q.1).f0, (rd_T25 l0_4 q.1).f1, (rd_T25 l0_4 q.1).f2, (rd_T25 l0_4 q.1).f3, (rd_T25 l0_4 q.1).f4, (rd_T25 l0_4 q.1).f5, true) else none) else some (0, false, 0, ByteArray.empty, [], [], false)
    else some (0, false, 0, ByteArray.empty, [], [], false)
  else some (0, false, 0, ByteArray.empty, [], [], false)
theorem value_Get.mono : ∀ a0 a1 a2 a3 a4 a5 a6 k, LeO (value_Get.f k a0 a1 a2 a3 a4 a5 a6) (value_Get.f (k + 1) a0 a1 a2 a3 a4 a5 a6) := by
  intro a0 a1 a2 a3 a4 a5 a6 k
  unfold value_Get.f
  refine LeO.ite (LeO.ite (LeO.bind (slices_BinarySearch_string_string.mono _ _ _) (fun _ => LeO.refl _)) (LeO.refl _)) (LeO.refl _)
set_option maxHeartbeats 1600000 in
set_option maxRecDepth 100000 in
theorem value_Get.calls (k : Nat) (a0_0 : Int) (a0_1 : Bool) (a0_2 : Int) (a0_3 : ByteArray) (A0_4 : Option Addr) (c0_4 : Nat) (l0_4 : List S25) (A0_5 : Option Addr) (c0_5 : Nat) (l0_5 : List ByteArray) (a1 : ByteArray) (r1 : Int) (r2 : Bool) (r3 : Int) (r4 : ByteArray) (r5 : List S25) (r6 : List ByteArray) (r7 : Bool) (w : World)
    (hr0_4 : Kd.C k25 w A0_4 l0_4.length l0_4) (hc0_4 : l0_4.length ≤ c0_4) (hr0_5 : Kd.C Kd.string w A0_5 l0_5.length l0_5) (hc0_5 : l0_5.length ≤ c0_5)
    (h : value_Get.f k a0_0 a0_1 a0_2 a0_3 l0_4 l0_5 a1 = some (r1, r2, r3, r4, r5, r6, r7)) :
    Calls Tryd.prog 18 #[.agg #[.int .i64 a0_0, .bool a0_1, .int .i64 a0_2, .string a0_3, .slice A0_4 l0_4.length c0_4, .slice A0_5 l0_5.length c0_5], .string a1] w fun e w' =>
      ∃ v4 v5 : Value, e = .returned (.tuple #[.agg #[.int .i64 r1, .bool r2, .int .i64 r3, .string r4, v4, v5], .bool r7]) ∧ k25.R 25 w' w.heap.size (fun k_ => some k_ ≠ (v5 : Value).ownBlock) v4 r5 ∧ Kd.string.R 9 w' w.heap.size (fun _ => True) v5 r6 ∧ Below w.heap.size w w' := by
  have X4 := Aside0.mk hr0_4
  have X5 := Aside0.mk hr0_5
  have HB := Aside0.mk (Below.refl w.heap.size w)
  clear hr0_4 hr0_5
  have HB0 := Aside0.mk (qAd (qAd (Below.refl w.heap.size w) (.cells #[.int .i64 a0_0, .bool a0_1, .int .i64 a0_2, .string a0_3, .slice A0_4 l0_4.length c0_4, .slice A0_5 l0_5.length c0_5] 25)) (.cells #[.int .i64 0, .bool false, .int .i64 0, .string ⟨#[]⟩, .slice none 0 0, .slice none 0 0] 25))
  have HT := Aside0.mk (qC8 w #[.int .i64 a0_0, .bool a0_1, .int .i64 a0_2, .string a0_3, .slice A0_4 l0_4.length c0_4, .slice A0_5 l0_5.length c0_5] #[.int .i64 0, .bool false, .int .i64 0, .string ⟨#[]⟩, .slice none 0 0, .slice none 0 0] 25 25)
  by_cases h5 : a0_0 = 5
  · subst h5
    rw [value_Get.f, if_pos rfl] at h
    have HSM := Aside0.mk (qBu 16 ⟨5, a0_1, a0_2, a0_3, l0_4, l0_5⟩ 0 (by omega))
    have hm1 : value_May.f 5 a0_1 a0_2 a0_3 l0_4 l0_5 = some (mayV 16 ⟨5, a0_1, a0_2, a0_3, l0_4, l0_5⟩ 0).2 := rfl
    generalize (mayV 16 ⟨5, a0_1, a0_2, a0_3, l0_4, l0_5⟩ 0).2 = b1 at *
    have M1 := Aside0.mk hm1
    clear hm1
    have H := Aside0.mk h
    clear h
    go_enter Tryd.func18, Tryd.ntmps18
    go_wp2_with fail
    generalize (w.alloc (.cells #[.int .i64 5, .bool a0_1, .int .i64 a0_2, .string a0_3, .slice A0_4 l0_4.length c0_4, .slice A0_5 l0_5.length c0_5] 25)).alloc (.cells #[.int .i64 0, .bool false, .int .i64 0, .string ⟨#[]⟩, .slice none 0 0, .slice none 0 0] 25) = W0 at *
    have HX := Aside0.mk HT.out.1
    have HY := Aside0.mk HT.out.2
    clear HT
    obtain ⟨x0, x1, x2, x3, x4, x5⟩ := qAt HX.out
    go_wp2_with fail
    refine (value_May.calls 5 a0_1 a0_2 a0_3 _ _ l0_4 _ _ l0_5 b1 _ (Kd.C_below X4.out HB0.out) hc0_4 (Kd.C_below X5.out HB0.out) hc0_5 M1.out).mono ?_
    rintro e w2 ⟨rfl, hb2⟩
    have HB2 := Aside0.mk (qAi HB0.out hb2)
    have HX2 := Aside0.mk (qAk HX.out hb2)
    have HY2 := Aside0.mk (qAk HY.out hb2)
    clear hb2 HX HY HB0 M1 x0 x1 x2 x3 x4 x5
    obtain ⟨x0, x1, x2, x3, x4, x5⟩ := qAt HX2.out
    obtain ⟨p0, p1, p2, p3, p4, p5⟩ := qAt HY2.out
    have pf := fun k => qAa HY2.out k
    cases b1 with
    | false =>
      have h := H.out
      simp only [Bool.false_eq_true, if_false, reduceIte] at h
      cases h
      go_wp2_with fail
      have HF := Aside0.mk (qB9 (.int .i64 0) (.bool false) (.int .i64 0) (.string ⟨#[]⟩) (.slice none 0 0) (.slice none 0 0) HY2.out)
      have HFB := Aside0.mk (qBi (g := w.heap.size + 1) (.int .i64 0) (.bool false) (.int .i64 0) (.string ⟨#[]⟩) (.slice none 0 0) (.slice none 0 0) HB2.out (by omega) 0)
      simp only [Nat.zero_add] at HFB
      clear p0 p1 p2 p3 p4 p5 pf
      generalize (((((w2.setCell { block := w.heap.size + 1, off := 0 } (Value.int IntKind.i64 0)).setCell { block := w.heap.size + 1, off := 1 } (Value.bool false)).setCell { block := w.heap.size + 1, off := 2 } (Value.int IntKind.i64 0)).setCell { block := w.heap.size + 1, off := 3 } (Value.string ⟨#[]⟩)).setCell { block := w.heap.size + 1, off := 4 } (Value.slice none 0 0)).setCell { block := w.heap.size + 1, off := 5 } (Value.slice none 0 0) = WF at *
      obtain ⟨r0, r1, r2, r3, r4, r5⟩ := qAt HF.out
      refine bodyPost_ret (v := .tuple #[.agg #[.int .i64 0, .bool false, .int .i64 0, .string ⟨#[]⟩, .slice none 0 0, .slice none 0 0], .bool false]) (by simp [results, Tryd.results18, go_sem, r0, r1, r2, r3, r4, r5]) rfl ⟨_, _, rfl, Kd.R_nil _ _ _ _ _, Kd.R_nil _ _ _ _ _, HFB.out⟩
    | true =>
      have hsm := HSM.out rfl
      have HSE := Aside0.mk hsm.2.2
      clear hsm HSM
      have h := H.out
      clear H
      simp only [if_true, reduceIte] at h
      obtain ⟨q, hq, h⟩ := Option.bind_eq_some_iff.1 h
      obtain ⟨q1, q2⟩ := q
      have HQ := Aside0.mk hq
      clear hq
      go_wp2_with fail
      refine (slices_BinarySearch_string_string.calls k _ _ l0_5 a1 q1 q2 _ (Kd.C_below X5.out HB2.out) hc0_5 HQ.out).mono ?_
      rintro e w3 ⟨rfl, hd3⟩
      have hb3 := hd3.below
      have HB3 := Aside0.mk (qAi HB2.out hb3)
      have HX3 := Aside0.mk (qAk HX2.out hb3)
      have HY3 := Aside0.mk (qAk HY2.out hb3)
      clear hb3 hd3 HX2 HY2 HB2 HQ x0 x1 x2 x3 x4 x5 p0 p1 p2 p3 p4 p5 pf
      obtain ⟨x0, x1, x2, x3, x4, x5⟩ := qAt HX3.out
      obtain ⟨p0, p1, p2, p3, p4, p5⟩ := qAt HY3.out
      have pf := fun k => qAa HY3.out k
      cases q2 with
      | false =>
        simp only [Bool.false_eq_true, if_false, reduceIte] at h
        cases h
        go_wp2_with fail
        have HF := Aside0.mk (qB9 (.int .i64 0) (.bool false) (.int .i64 0) (.string ⟨#[]⟩) (.slice none 0 0) (.slice none 0 0) HY3.out)
        have HFB := Aside0.mk (qBi (g := w.heap.size + 1) (.int .i64 0) (.bool false) (.int .i64 0) (.string ⟨#[]⟩) (.slice none 0 0) (.slice none 0 0) HB3.out (by omega) 0)
        simp only [Nat.zero_add] at HFB
        clear p0 p1 p2 p3 p4 p5 pf
        generalize (((((w3.setCell { block := w.heap.size + 1, off := 0 } (Value.int IntKind.i64 0)).setCell { block := w.heap.size + 1, off := 1 } (Value.bool false)).setCell { block := w.heap.size + 1, off := 2 } (Value.int IntKind.i64 0)).setCell { block := w.heap.size + 1, off := 3 } (Value.string ⟨#[]⟩)).setCell { block := w.heap.size + 1, off := 4 } (Value.slice none 0 0)).setCell { block := w.heap.size + 1, off := 5 } (Value.slice none 0 0) = WF at *
        obtain ⟨r0, r1, r2, r3, r4, r5⟩ := qAt HF.out
        refine bodyPost_ret (v := .tuple #[.agg #[.int .i64 0, .bool false, .int .i64 0, .string ⟨#[]⟩, .slice none 0 0, .slice none 0 0], .bool false]) (by simp [results, Tryd.results18, go_sem, r0, r1, r2, r3, r4, r5]) rfl ⟨_, _, rfl, Kd.R_nil _ _ _ _ _, Kd.R_nil _ _ _ _ _, HFB.out⟩
      | true =>
        simp only [if_true, reduceIte] at h
        by_cases hr : 0 ≤ q1 ∧ q1 < (l0_4.length : Int)
        · rw [if_pos hr] at h
          obtain ⟨ad, B4, b4, B5, b5, rfl, z0, z1, z2, z3, z4, z5, l4, g4, l5, g5⟩ := at_T25 (Kd.C_below X4.out HB3.out) q1 hr.1 hr.2
          have hlt : q1.toNat < l0_4.length := by omega
          have HYE := Aside0.mk (HSE.out (rd_T25 l0_4 q1) (by rw [show rd_T25 l0_4 q1 = l0_4[q1.toNat] from by simp [rd_T25, List.getD_eq_getElem?_getD, hlt]]; exact List.getElem_mem hlt))
          have G4 := Aside0.mk g4
          have G5 := Aside0.mk g5
          generalize rd_T25 l0_4 q1 = y at *
          clear g4 g5 HSE X4 X5
          obtain ⟨hr1, hr2⟩ := hr
          cases h
          go_wp2_with fail
          refine (qEo 15 y B4 b4 B5 b5 _ HYE.out G4.out l4 G5.out l5).mono ?_
          rintro e w4 ⟨v4, v5, rfl, hv4, hv5, hb4⟩
          obtain ⟨s4, t4, rfl⟩ := Kd.R_slice hv4
          obtain ⟨s5, t5, rfl⟩ := Kd.R_slice hv5
          have HB4 := Aside0.mk (qAi HB3.out hb4)
          have HY4 := Aside0.mk (qAk HY3.out hb4)
          have V4 := Aside0.mk hv4
          have V5 := Aside0.mk hv5
          have hlt3 := blk_lt HY3.out
          clear hb4 hv4 hv5 HY3 HX3 x0 x1 x2 x3 x4 x5 p0 p1 p2 p3 p4 p5 pf z0 z1 z2 z3 z4 z5
          obtain ⟨p0, p1, p2, p3, p4, p5⟩ := qAt HY4.out
          have pf := fun k => qAa HY4.out k
          go_wp2_with fail
          have HF := Aside0.mk (qB9 (.int .i64 y.f0) (.bool y.f1) (.int .i64 y.f2) (.string y.f3) (.slice s4 y.f4.length t4) (.slice s5 y.f5.length t5) HY4.out)
          have HFB := Aside0.mk (qBi (g := w.heap.size + 1) (.int .i64 y.f0) (.bool y.f1) (.int .i64 y.f2) (.string y.f3) (.slice s4 y.f4.length t4) (.slice s5 y.f5.length t5) HB4.out (by omega) 0)
          have HFO := Aside0.mk (fun k (h : k ≠ w.heap.size + 1) => qBx (w := w4) (g := w.heap.size + 1) (k := k) (.int .i64 y.f0) (.bool y.f1) (.int .i64 y.f2) (.string y.f3) (.slice s4 y.f4.length t4) (.slice s5 y.f5.length t5) 0 h)
          simp only [Nat.zero_add] at HFB HFO
          clear p0 p1 p2 p3 p4 p5 pf
          generalize (((((w4.setCell { block := w.heap.size + 1, off := 0 } (Value.int IntKind.i64 y.f0)).setCell { block := w.heap.size + 1, off := 1 } (Value.bool y.f1)).setCell { block := w.heap.size + 1, off := 2 } (Value.int IntKind.i64 y.f2)).setCell { block := w.heap.size + 1, off := 3 } (Value.string y.f3)).setCell { block := w.heap.size + 1, off := 4 } (Value.slice s4 y.f4.length t4)).setCell { block := w.heap.size + 1, off := 5 } (Value.slice s5 y.f5.length t5) = WF at *
          obtain ⟨r0, r1, r2, r3, r4, r5⟩ := qAt HF.out
          have hbw := HB3.out.size
          refine bodyPost_ret (v := .tuple #[.agg #[.int .i64 y.f0, .bool y.f1, .int .i64 y.f2, .string y.f3, .slice s4 y.f4.length t4, .slice s5 y.f5.length t5], .bool true]) (by simp [results, Tryd.results18, go_sem, r0, r1, r2, r3, r4, r5]) rfl ⟨_, _, rfl, (Kd.R_mono (Kd.R_move (Kd.R_lower (base' := w.heap.size) (Kd.R_mono (ok' := fun k => k ≠ w.heap.size + 1 ∧ some k ≠ (Value.slice s5 y.f5.length t5).ownBlock) (Kd.R_bound V4.out) (fun k hk => ⟨by have := hk.2.1; omega, hk.1⟩)) (by omega)) (fun k hk => HFO.out k hk.1)) (fun _ h_ => h_.2)), (Kd.R_mono (Kd.R_move (Kd.R_lower (base' := w.heap.size) (Kd.R_mono (ok' := fun k => k ≠ w.heap.size + 1) (Kd.R_bound V5.out) (fun k hk => by have := hk.2.1; omega)) (by omega)) (fun k hk => HFO.out k hk)) (fun _ _ => trivial)), HFB.out⟩
        · rw [if_neg hr] at h
          cases h
  · rw [value_Get.f, if_neg h5] at h
    cases h
    go_enter Tryd.func18, Tryd.ntmps18
    go_wp2_with fail
    generalize (w.alloc (.cells #[.int .i64 a0_0, .bool a0_1, .int .i64 a0_2, .string a0_3, .slice A0_4 l0_4.length c0_4, .slice A0_5 l0_5.length c0_5] 25)).alloc (.cells #[.int .i64 0, .bool false, .int .i64 0, .string ⟨#[]⟩, .slice none 0 0, .slice none 0 0] 25) = W0 at *
    have HX := Aside0.mk HT.out.1
    have HY := Aside0.mk HT.out.2
    clear HT
    obtain ⟨x0, x1, x2, x3, x4, x5⟩ := qAt HX.out
    obtain ⟨p0, p1, p2, p3, p4, p5⟩ := qAt HY.out
    have pf := fun k => qAa HY.out k
    go_wp2_with fail
    refine bodyPost_ret (v := .tuple #[.agg #[.int .i64 0, .bool false, .int .i64 0, .string ⟨#[]⟩, .slice none 0 0, .slice none 0 0], .bool false]) (by simp [results, Tryd.results18, go_sem, p0, p1, p2, p3, p4, p5]) rfl ⟨_, _, rfl, Kd.R_nil _ _ _ _ _, Kd.R_nil _ _ _ _ _, HB0.out⟩
end Go.Proofs.YtbnoihpooeombaaDoor.X

namespace Go.Proofs.YtbnoihpooeombaaDoor.P
open Go.Proofs.YtbnoihpooeombaaDoor.X
open Go.RowKit Go.Proofs.YtbnoihpooeombaaDoorW.PrintWords Go.Proofs.YtbnoihpooeombaaDoorW.PrintLast Go.Proofs.YtbnoihpooeombaaDoorW.PrintMore
attribute [local go_sem] qAr qAy
set_option linter.unusedVariables false
set_option linter.unusedSimpArgs false
def hogsheadlaw0_SameTexts.l0 : Nat → List ByteArray → List ByteArray → Int → Option (Bool)
 | 0, _, _, _ => none
 | k + 1, x0, x1, x5 => if x5 < (x0.length : Int) then (if 0 ≤ x5 then (if x5 < (x1.length : Int) then (if (rdOf ByteArray.empty x0 x5).toList = (rdOf ByteArray.empty x1 x5).toList then (hogsheadlaw0_SameTexts.l0 k x0 x1 (wrap64 (x5 + 1))) else (some false)) else (none)) else (none)) else (some true)
def hogsheadlaw0_SameTexts.f (k : Nat) (l0 : List ByteArray) (l1 : List ByteArray) : Option (Bool) := if (l0.length : Int) = (l1.length : Int) then (hogsheadlaw0_SameTexts.l0 k l0 l1 0) else (some false)
set_option maxHeartbeats 8000000 in
set_option maxRecDepth 100000 in
theorem hogsheadlaw0_SameTexts.calls (k : Nat) (A0 : Option Addr) (c0 : Nat) (l0 : List ByteArray) (A1 : Option Addr) (c1 : Nat) (l1 : List ByteArray) (r : Bool) (w : World) (hr0 : Kd.C Kd.string w A0 l0.length l0) (hc0 : l0.length ≤ c0) (hr1 : Kd.C Kd.string w A1 l1.length l1) (hc1 : l1.length ≤ c1) (h : hogsheadlaw0_SameTexts.f k l0 l1 = some r) :
  Calls Tryd.prog 55 #[.slice A0 l0.length c0, .slice A1 l1.length c1] w fun e w' => e = .returned (.bool r) ∧ Drawn0 w w' := by
 have HR0 := Aside0.mk hr0
 have HC0 := Aside0.mk hc0
 clear hr0 hc0
 have HR1 := Aside0.mk hr1
 have HC1 := Aside0.mk hc1
 clear hr1 hc1
 have H : (if (l0.length : Int) = (l1.length : Int) then (hogsheadlaw0_SameTexts.l0 k l0 l1 0) else (some false)) = some r := h
 clear h
 by_cases c3 : (l0.length : Int) = (l1.length : Int)
 ·rw [if_pos c3] at H
  have c3b0 : ((l0.length : Int) == (l1.length : Int)) = true := beq_iff_eq.mpr c3
  have c3b1 : ((l0.length : Int) != (l1.length : Int)) = false := bne_eq_false_iff_eq.mpr c3
  have c3b2 : (l0.length == l1.length) = true := by first | simpa using c3 | (simp at c3 ⊢; omega)
  clear c3
  have H' := Aside0.mk H
  clear H
  go_enter Tryd.func55, Tryd.ntmps55
  go_wp2
  repeat (go_quiet (fail); try go_wp2)
  go_loopg [5] k (fun kq v5 w' => ∃ (x5_1 : Int), v5 = .int .i64 x5_1 ∧ Aside0 (hogsheadlaw0_SameTexts.l0 kq l0 l1 x5_1 = some r) ∧ Aside0 (kq ≤ k) ∧ Drawn0 w w')
  case atStart => exact ⟨(0), (by first | rfl | (simp; done) | (simp [*]; done) | exact congrArg Value.bool (nil_ne _) | exact congrArg Value.bool (nil_eq _) | exact congrArg Value.bool (nil_ne' _)), H', ⟨Nat.le_refl _⟩, by repeat (first | exact Drawn0.refl _ | apply Drawn0.step)⟩
  case round =>
   clear H'
   try clear c1
   try clear p2
   try clear c3
   try clear c3b0
   try clear c3b1
   try clear c3b2
   obtain ⟨x5_1, rfl, HA, HK1, ⟨m1, rfl⟩⟩ := hrel
   cases gk with
   | zero => exact absurd HA.out (by simp [hogsheadlaw0_SameTexts.l0])
   | succ k1 =>
    have H := HA.out
    clear HA
    simp only [hogsheadlaw0_SameTexts.l0] at H
    by_cases c4 : x5_1 < (l0.length : Int)
    ·rw [if_pos c4] at H
     have c4b0 : decide (x5_1 < (l0.length : Int)) = true := decide_eq_true c4
     clear c4
     by_cases c5 : 0 ≤ x5_1
     ·rw [if_pos c5] at H
      have c5b0 : decide (0 ≤ x5_1) = true := decide_eq_true c5
      clear c5
      by_cases c6 : x5_1 < (l1.length : Int)
      ·rw [if_pos c6] at H
       have c6b0 : decide (x5_1 < (l1.length : Int)) = true := decide_eq_true c6
       clear c6
       by_cases c7 : (rdOf ByteArray.empty l0 x5_1).toList = (rdOf ByteArray.empty l1 x5_1).toList
       ·rw [if_pos c7] at H
        have c7b0 : ((rdOf ByteArray.empty l0 x5_1).toList == (rdOf ByteArray.empty l1 x5_1).toList) = true := beq_iff_eq.mpr c7
        have c7b1 : ((rdOf ByteArray.empty l0 x5_1).toList != (rdOf ByteArray.empty l1 x5_1).toList) = false := bne_eq_false_iff_eq.mpr c7
        clear c7
        have H' := Aside0.mk H
        clear H
        have p212 : 0 ≤ (x5_1 : Int) := of_decide_eq_true (by first | (with_reducible assumption) | assumption)
        have q212 : x5_1 < (l0.length : Int) := of_decide_eq_true (by first | (with_reducible assumption) | assumption)
        obtain ⟨ad212, e212, hx212_0⟩ := Kd.at_string HR0.out x5_1 p212 q212
        cases e212
        replace p212 := eq_true p212
        replace q212 := eq_true q212
        have p213 : 0 ≤ (x5_1 : Int) := of_decide_eq_true (by first | (with_reducible assumption) | assumption)
        have q213 : x5_1 < (l1.length : Int) := of_decide_eq_true (by first | (with_reducible assumption) | assumption)
        obtain ⟨ad213, e213, hx213_0⟩ := Kd.at_string HR1.out x5_1 p213 q213
        cases e213
        replace p213 := eq_true p213
        replace q213 := eq_true q213
        go_wp2
        repeat (go_quiet (fail); try go_wp2)
        go_roundg k1
        case measure => have := HK1.out; omega
        case rel => exact ⟨(wrap64 (x5_1 + 1)), (by first | rfl | (simp; done) | (simp [*]; done) | exact congrArg Value.bool (nil_ne _) | exact congrArg Value.bool (nil_eq _) | exact congrArg Value.bool (nil_ne' _)), H', ⟨by have := HK1.out; omega⟩, by repeat (first | exact Drawn0.refl _ | apply Drawn0.step)⟩
       ·rw [if_neg c7] at H
        have c7b0 : ((rdOf ByteArray.empty l0 x5_1).toList == (rdOf ByteArray.empty l1 x5_1).toList) = false := beq_eq_false_iff_ne.mpr c7
        have c7b1 : ((rdOf ByteArray.empty l0 x5_1).toList != (rdOf ByteArray.empty l1 x5_1).toList) = true := bne_iff_ne.mpr c7
        obtain rfl := Option.some.inj H
        have p212 : 0 ≤ (x5_1 : Int) := of_decide_eq_true (by first | (with_reducible assumption) | assumption)
        have q212 : x5_1 < (l0.length : Int) := of_decide_eq_true (by first | (with_reducible assumption) | assumption)
        obtain ⟨ad212, e212, hx212_0⟩ := Kd.at_string HR0.out x5_1 p212 q212
        cases e212
        replace p212 := eq_true p212
        replace q212 := eq_true q212
        have p213 : 0 ≤ (x5_1 : Int) := of_decide_eq_true (by first | (with_reducible assumption) | assumption)
        have q213 : x5_1 < (l1.length : Int) := of_decide_eq_true (by first | (with_reducible assumption) | assumption)
        obtain ⟨ad213, e213, hx213_0⟩ := Kd.at_string HR1.out x5_1 p213 q213
        cases e213
        replace p213 := eq_true p213
        replace q213 := eq_true q213
        go_wp2
        repeat (go_quiet (fail); try go_wp2)
        go_ret
        exact ⟨by first | rfl | (simp; done) | (simp [*]; done), by repeat (first | exact Drawn0.refl _ | apply Drawn0.step)⟩
      ·rw [if_neg c6] at H
       exact absurd H (by simp)
     ·rw [if_neg c5] at H
      exact absurd H (by simp)
    ·rw [if_neg c4] at H
     have c4b0 : decide (x5_1 < (l0.length : Int)) = false := decide_eq_false c4
     clear c4
     obtain rfl := Option.some.inj H
     go_wp2
     repeat (go_quiet (fail); try go_wp2)
     go_ret
     exact ⟨by first | rfl | (simp; done) | (simp [*]; done), by repeat (first | exact Drawn0.refl _ | apply Drawn0.step)⟩
 ·rw [if_neg c3] at H
  have c3b0 : ((l0.length : Int) == (l1.length : Int)) = false := beq_eq_false_iff_ne.mpr c3
  have c3b1 : ((l0.length : Int) != (l1.length : Int)) = true := bne_iff_ne.mpr c3
  have c3b2 : (l0.length == l1.length) = false := by first | simpa using c3 | (simp at c3 ⊢; omega)
  obtain rfl := Option.some.inj H
  go_enter Tryd.func55, Tryd.ntmps55
  go_wp2
  repeat (go_quiet (fail); try go_wp2)
  go_ret
  exact ⟨by first | rfl | (simp; done) | (simp [*]; done), by repeat (first | exact Drawn0.refl _ | apply Drawn0.step)⟩
end Go.Proofs.YtbnoihpooeombaaDoor.P

namespace Go.Proofs.YtbnoihpooeombaaDoor.P
open Go.Proofs.YtbnoihpooeombaaDoor.X
open Go.RowKit Go.Proofs.YtbnoihpooeombaaDoorW.PrintWords Go.Proofs.YtbnoihpooeombaaDoorW.PrintLast Go.Proofs.YtbnoihpooeombaaDoorW.PrintMore
attribute [local go_sem] qAr qAy
set_option linter.unusedVariables false
set_option linter.unusedSimpArgs false
mutual
def hogsheadlaw0_SameValue.j0 : Nat → Int → Bool → Int → Bool → Int → ByteArray → List (S25) → List ByteArray → Int → Bool → Int → ByteArray → List (S25) → List ByteArray → Option (Bool)
 | 0, _, _, _, _, _, _, _, _, _, _, _, _, _, _ => none
 | k + 1, x2, x54, x215000, x215001, x215002, x215003, x215004, x215005, x216000, x216001, x216002, x216003, x216004, x216005 => if x54 = true then (some false) else (hogsheadlaw0_SameValue.l0 k x2 0 x215000 x215001 x215002 x215003 x215004 x215005 x216000 x216001 x216002 x216003 x216004 x216005)
def hogsheadlaw0_SameValue.l0 : Nat → Int → Int → Int → Bool → Int → ByteArray → List (S25) → List ByteArray → Int → Bool → Int → ByteArray → List (S25) → List ByteArray → Option (Bool)
 | 0, _, _, _, _, _, _, _, _, _, _, _, _, _, _ => none
 | k + 1, x2, x7, x215000, x215001, x215002, x215003, x215004, x215005, x216000, x216001, x216002, x216003, x216004, x216005 => if x7 < (x215004.length : Int) then (if 0 ≤ x7 then (if x7 < (x216004.length : Int) then ((hogsheadlaw0_SameValue.f k ((rd_T25 x215004 x7).f0) ((rd_T25 x215004 x7).f1) ((rd_T25 x215004 x7).f2) ((rd_T25 x215004 x7).f3) ((rd_T25 x215004 x7).f4) ((rd_T25 x215004 x7).f5) ((rd_T25 x216004 x7).f0) ((rd_T25 x216004 x7).f1) ((rd_T25 x216004 x7).f2) ((rd_T25 x216004 x7).f3) ((rd_T25 x216004 x7).f4) ((rd_T25 x216004 x7).f5) (wrap64 (x2 - 1))).bind fun t219 => (if t219 = true then (hogsheadlaw0_SameValue.l0 k x2 (wrap64 (x7 + 1)) x215000 x215001 x215002 x215003 x215004 x215005 x216000 x216001 x216002 x216003 x216004 x216005) else (some false))) else (none)) else (none)) else (some true)
def hogsheadlaw0_SameValue.f : Nat → Int → Bool → Int → ByteArray → List (S25) → List ByteArray → Int → Bool → Int → ByteArray → List (S25) → List ByteArray → Int → Option (Bool)
 | 0, _, _, _, _, _, _, _, _, _, _, _, _, _ => none
 | k + 1, a0_0, a0_1, a0_2, a0_3, l0_4, l0_5, a1_0, a1_1, a1_2, a1_3, l1_4, l1_5, a2 => if a0_0 = a1_0 then (if (a0_1 != a1_1) = true then (hogsheadlaw0_SameValue.j0 k a2 true a0_0 a0_1 a0_2 a0_3 l0_4 l0_5 a1_0 a1_1 a1_2 a1_3 l1_4 l1_5) else (if a0_2 = a1_2 then (if a0_3.toList = a1_3.toList then ((hogsheadlaw0_SameTexts.f k l0_5 l1_5).bind fun t216 => (if t216 = true then (if (l0_4.length : Int) = (l1_4.length : Int) then (hogsheadlaw0_SameValue.j0 k a2 (decide (a2 < 1)) a0_0 a0_1 a0_2 a0_3 l0_4 l0_5 a1_0 a1_1 a1_2 a1_3 l1_4 l1_5) else (hogsheadlaw0_SameValue.j0 k a2 true a0_0 a0_1 a0_2 a0_3 l0_4 l0_5 a1_0 a1_1 a1_2 a1_3 l1_4 l1_5)) else (hogsheadlaw0_SameValue.j0 k a2 true a0_0 a0_1 a0_2 a0_3 l0_4 l0_5 a1_0 a1_1 a1_2 a1_3 l1_4 l1_5))) else (hogsheadlaw0_SameValue.j0 k a2 true a0_0 a0_1 a0_2 a0_3 l0_4 l0_5 a1_0 a1_1 a1_2 a1_3 l1_4 l1_5)) else (hogsheadlaw0_SameValue.j0 k a2 true a0_0 a0_1 a0_2 a0_3 l0_4 l0_5 a1_0 a1_1 a1_2 a1_3 l1_4 l1_5))) else (hogsheadlaw0_SameValue.j0 k a2 true a0_0 a0_1 a0_2 a0_3 l0_4 l0_5 a1_0 a1_1 a1_2 a1_3 l1_4 l1_5)
end
def hogsheadlaw0_SameValue.T6 : Bool × List (List Nat × List Nat) := (true, [([], []), ([0], [0]), ([], []), ([1, 2], [1, 2]), ([3], [3]), ([], []), ([5], [5]), ([], []), ([6, 7], [6, 7]), ([8], [8]), ([], []), ([10], [10]), ([4, 9, 11], [4, 9, 11]), ([12], [12])])
def hogsheadlaw0_SameValue.B6 : List Nat := [0, 1, 0, 7, 15, 0, 32, 0, 224, 480, 0, 1024, 4095, 8191]
theorem hogsheadlaw0_SameValue.tab6 : rtab .any (opsOf Tryd.f25 6) = hogsheadlaw0_SameValue.T6 := by kernel_rfl
theorem hogsheadlaw0_SameValue.bits6 : qB8 hogsheadlaw0_SameValue.T6.2 hogsheadlaw0_SameValue.B6 = true := by kernel_rfl
set_option maxHeartbeats 8000000 in
set_option maxRecDepth 100000 in
theorem hogsheadlaw0_SameValue.calls (k : Nat) : ∀ (a0_0 : Int) (a0_1 : Bool) (a0_2 : Int) (a0_3 : ByteArray) (A0_4 : Option Addr) (c0_4 : Nat) (l0_4 : List (S25)) (A0_5 : Option Addr) (c0_5 : Nat) (l0_5 : List ByteArray) (a1_0 : Int) (a1_1 : Bool) (a1_2 : Int) (a1_3 : ByteArray) (A1_4 : Option Addr) (c1_4 : Nat) (l1_4 : List (S25)) (A1_5 : Option Addr) (c1_5 : Nat) (l1_5 : List ByteArray) (a2 : Int) (r : Bool) (w : World) (hr0_4 : Kd.C k25 w A0_4 l0_4.length l0_4) (hc0_4 : l0_4.length ≤ c0_4) (hr0_5 : Kd.C Kd.string w A0_5 l0_5.length l0_5) (hc0_5 : l0_5.length ≤ c0_5) (hr1_4 : Kd.C k25 w A1_4 l1_4.length l1_4) (hc1_4 : l1_4.length ≤ c1_4) (hr1_5 : Kd.C Kd.string w A1_5 l1_5.length l1_5) (hc1_5 : l1_5.length ≤ c1_5) (h : hogsheadlaw0_SameValue.f k a0_0 a0_1 a0_2 a0_3 l0_4 l0_5 a1_0 a1_1 a1_2 a1_3 l1_4 l1_5 a2 = some r),
  Calls Tryd.prog 25 #[.agg #[.int .i64 a0_0, .bool a0_1, .int .i64 a0_2, .string a0_3, .slice A0_4 l0_4.length c0_4, .slice A0_5 l0_5.length c0_5], .agg #[.int .i64 a1_0, .bool a1_1, .int .i64 a1_2, .string a1_3, .slice A1_4 l1_4.length c1_4, .slice A1_5 l1_5.length c1_5], .int .i64 a2] w fun e w' => e = .returned (.bool r) ∧ Below w.heap.size w w' := by
 induction k using Nat.strongRecOn with
 | _ k ih =>
 intro a0_0 a0_1 a0_2 a0_3 A0_4 c0_4 l0_4 A0_5 c0_5 l0_5 a1_0 a1_1 a1_2 a1_3 A1_4 c1_4 l1_4 A1_5 c1_5 l1_5 a2 r w hr0_4 hc0_4 hr0_5 hc0_5 hr1_4 hc1_4 hr1_5 hc1_5 h
 cases k with
 | zero => exact absurd h (by simp [hogsheadlaw0_SameValue.f])
 | succ k =>
 simp only [hogsheadlaw0_SameValue.f] at h
 have hu25 := Tryd.underlying25
 have HR0_4 := Aside0.mk hr0_4
 have HC0_4 := Aside0.mk hc0_4
 clear hr0_4 hc0_4
 have HR0_5 := Aside0.mk hr0_5
 have HC0_5 := Aside0.mk hc0_5
 clear hr0_5 hc0_5
 have HR1_4 := Aside0.mk hr1_4
 have HC1_4 := Aside0.mk hc1_4
 clear hr1_4 hc1_4
 have HR1_5 := Aside0.mk hr1_5
 have HC1_5 := Aside0.mk hc1_5
 clear hr1_5 hc1_5
 have HB := Aside0.mk (Below.refl w.heap.size w)
 have H : (if a0_0 = a1_0 then (if (a0_1 != a1_1) = true then (hogsheadlaw0_SameValue.j0 k a2 true a0_0 a0_1 a0_2 a0_3 l0_4 l0_5 a1_0 a1_1 a1_2 a1_3 l1_4 l1_5) else (if a0_2 = a1_2 then (if a0_3.toList = a1_3.toList then ((hogsheadlaw0_SameTexts.f k l0_5 l1_5).bind fun t216 => (if t216 = true then (if (l0_4.length : Int) = (l1_4.length : Int) then (hogsheadlaw0_SameValue.j0 k a2 (decide (a2 < 1)) a0_0 a0_1 a0_2 a0_3 l0_4 l0_5 a1_0 a1_1 a1_2 a1_3 l1_4 l1_5) else (hogsheadlaw0_SameValue.j0 k a2 true a0_0 a0_1 a0_2 a0_3 l0_4 l0_5 a1_0 a1_1 a1_2 a1_3 l1_4 l1_5)) else (hogsheadlaw0_SameValue.j0 k a2 true a0_0 a0_1 a0_2 a0_3 l0_4 l0_5 a1_0 a1_1 a1_2 a1_3 l1_4 l1_5))) else (hogsheadlaw0_SameValue.j0 k a2 true a0_0 a0_1 a0_2 a0_3 l0_4 l0_5 a1_0 a1_1 a1_2 a1_3 l1_4 l1_5)) else (hogsheadlaw0_SameValue.j0 k a2 true a0_0 a0_1 a0_2 a0_3 l0_4 l0_5 a1_0 a1_1 a1_2 a1_3 l1_4 l1_5))) else (hogsheadlaw0_SameValue.j0 k a2 true a0_0 a0_1 a0_2 a0_3 l0_4 l0_5 a1_0 a1_1 a1_2 a1_3 l1_4 l1_5)) = some r := h
 clear h
 have HC4 := Aside0.mk H
 clear H
 go_enter Tryd.func25, Tryd.ntmps25
 go_upto_region 1 with (first | ((with_reducible refine qA0 (N := 3) rfl ?_); (try (refine qCy (by rfl) ?_; dsimp only)); refine qAz ?hg (N := 3) ?hd (cs := #[.int .i64 a0_0, .bool a0_1, .int .i64 a0_2, .string a0_3, .slice A0_4 l0_4.length c0_4, .slice A0_5 l0_5.length c0_5]) (t := 25) ?hr ?_; (case hd => rfl); (case hg => rfl); (case hr => first | (go_simp; done) | (go_simp; rfl)); intro gb214 hg w5 hbox hb; have n0_ := Aside0.mk (qAi (by repeat (first | (with_reducible first | exact HB.out | apply qAd | apply qAb | apply qAe) | exact HB.out)) hb); have n1_ := Aside0.mk (hbox); have n2_ := Aside0.mk ((by rw [hg]; exact (qAj (by repeat (first | (with_reducible first | exact HB.out | apply qAd | apply qAb | apply qAe) | exact HB.out))) : w.heap.size ≤ gb214)); have n3_ := Aside0.mk ((by rw [hg]; exact (qAj (by repeat (first | (with_reducible first | exact HB.out | apply qAd | apply qAb | apply qAe) | exact HB.out))) : w.heap.size ≤ gb214)); clear HB; have HB := n0_; have BK214 := n1_; have GW214 := n2_; have GE214 := n3_; clear n0_ n1_ n2_ n3_; clear hb hbox hg) | ((with_reducible refine qA0 (N := 4) rfl ?_); (try (refine qCy (by rfl) ?_; dsimp only)); refine qAz ?hg (N := 4) ?hd (cs := #[.int .i64 a1_0, .bool a1_1, .int .i64 a1_2, .string a1_3, .slice A1_4 l1_4.length c1_4, .slice A1_5 l1_5.length c1_5]) (t := 25) ?hr ?_; (case hd => rfl); (case hg => rfl); (case hr => first | (go_simp; done) | (go_simp; rfl)); intro gb215 hg w6 hbox hb; have n0_ := Aside0.mk (qAk (g := gb214) (o := .cells #[.int .i64 a0_0, .bool a0_1, .int .i64 a0_2, .string a0_3, .slice A0_4 l0_4.length c0_4, .slice A0_5 l0_5.length c0_5] 25 (0, 0)) (by (with_reducible repeat (first | refine qAf ?_ _ | refine qAh ?_ | refine blk_alloc ?_ _)); exact BK214.out) hb); have n1_ := Aside0.mk (qAi (by repeat (first | (with_reducible first | exact HB.out | apply qAd | apply qAb | apply qAe | refine qAg ?_ GE214.out) | exact HB.out)) hb); have n2_ := Aside0.mk (hbox); have n3_ := Aside0.mk ((by rw [hg]; exact (qAj (by repeat (first | (with_reducible first | exact HB.out | apply qAd | apply qAb | apply qAe | refine qAg ?_ GE214.out) | exact HB.out))) : w.heap.size ≤ gb215)); have n4_ := Aside0.mk ((by rw [hg]; exact (qAj (by repeat (first | (with_reducible first | exact HB.out | apply qAd | apply qAb | apply qAe | refine qAg ?_ GE214.out) | exact HB.out))) : w.heap.size ≤ gb215)); have n5_ := Aside0.mk ((by rw [hg]; exact Nat.ne_of_lt (blk_lt (g := gb214) (o := .cells #[.int .i64 a0_0, .bool a0_1, .int .i64 a0_2, .string a0_3, .slice A0_4 l0_4.length c0_4, .slice A0_5 l0_5.length c0_5] 25 (0, 0)) (by (with_reducible repeat (first | refine qAf ?_ _ | refine qAh ?_ | refine blk_alloc ?_ _)); exact BK214.out)) : gb214 ≠ gb215)); have n6_ := Aside0.mk ((by rw [hg]; exact Nat.ne_of_gt (blk_lt (g := gb214) (o := .cells #[.int .i64 a0_0, .bool a0_1, .int .i64 a0_2, .string a0_3, .slice A0_4 l0_4.length c0_4, .slice A0_5 l0_5.length c0_5] 25 (0, 0)) (by (with_reducible repeat (first | refine qAf ?_ _ | refine qAh ?_ | refine blk_alloc ?_ _)); exact BK214.out)) : gb215 ≠ gb214)); clear BK214; clear HB; have BK214 := n0_; have HB := n1_; have BK215 := n2_; have GW215 := n3_; have GE215 := n4_; have NB214_215 := n5_; have NB215_214 := n6_; clear n0_ n1_ n2_ n3_ n4_ n5_ n6_; clear hb hbox hg))
 (try simp only [Act.put, List.setIfInBounds_toArray, List.set_cons_zero, List.set_cons_succ])
 go_cut [54] (fun v54 wc => ∃ (kq : Nat) (x54_3 : Bool), v54 = .bool x54_3 ∧ Aside0 (hogsheadlaw0_SameValue.j0 kq a2 x54_3 a0_0 a0_1 a0_2 a0_3 l0_4 l0_5 a1_0 a1_1 a1_2 a1_3 l1_4 l1_5 = some r) ∧ Aside0 (kq ≤ k) ∧ Aside0 (wc.heap[gb214]? = some (.cells #[.int .i64 a0_0, .bool a0_1, .int .i64 a0_2, .string a0_3, (.slice A0_4 l0_4.length c0_4), (.slice A0_5 l0_5.length c0_5)] 25 (0, 0))) ∧ Aside0 (wc.heap[gb215]? = some (.cells #[.int .i64 a1_0, .bool a1_1, .int .i64 a1_2, .string a1_3, (.slice A1_4 l1_4.length c1_4), (.slice A1_5 l1_5.length c1_5)] 25 (0, 0))) ∧ Aside0 (Below w.heap.size w wc))
 case first =>
  have H := HC4.out
  clear HC4
  by_cases c7 : a0_0 = a1_0
  ·rw [if_pos c7] at H
   have c7b0 : (a0_0 == a1_0) = true := beq_iff_eq.mpr c7
   have c7b1 : (a0_0 != a1_0) = false := bne_eq_false_iff_eq.mpr c7
   clear c7
   (first | rw [c7b0] | (simp only [i64_w, i32_w]; rw [c7b0]) | skip)
   by_cases c8 : (a0_1 != a1_1) = true
   ·rw [if_pos c8] at H
    have c8b0 : (a0_1 != a1_1) = true := c8
    (try (have c8b1 : decide (a0_1 = a1_1) = false := by simpa using c8))
    (try (have c8b2 : (a0_1 == a1_1) = false := by simpa using c8))
    (try (have c8b3 : ¬ (a0_1 = a1_1) := by simpa using c8))
    clear c8
    have H' := Aside0.mk H
    clear H
    have hnb9 := NB214_215.out
    have hnc9 := NB215_214.out
    have hcz10_0 : w6.cell? ⟨gb214, 0, none⟩ = some (.int .i64 a0_0) := (qAc BK214.out 0).trans rfl
    have hcz10_1 : w6.cell? ⟨gb214, 1, none⟩ = some (.bool a0_1) := (qAc BK214.out 1).trans rfl
    have hcz10_2 : w6.cell? ⟨gb214, 2, none⟩ = some (.int .i64 a0_2) := (qAc BK214.out 2).trans rfl
    have hcz10_3 : w6.cell? ⟨gb214, 3, none⟩ = some (.string a0_3) := (qAc BK214.out 3).trans rfl
    have hcz10_4 : w6.cell? ⟨gb214, 4, none⟩ = some (.slice A0_4 l0_4.length c0_4) := (qAc BK214.out 4).trans rfl
    have hcz10_5 : w6.cell? ⟨gb214, 5, none⟩ = some (.slice A0_5 l0_5.length c0_5) := (qAc BK214.out 5).trans rfl
    have hfz10_0 := qAa BK214.out 0
    have hfz10_1 := qAa BK214.out 1
    have hfz10_2 := qAa BK214.out 2
    have hfz10_3 := qAa BK214.out 3
    have hfz10_4 := qAa BK214.out 4
    have hfz10_5 := qAa BK214.out 5
    have hcz11_0 : w6.cell? ⟨gb215, 0, none⟩ = some (.int .i64 a1_0) := (qAc BK215.out 0).trans rfl
    have hcz11_1 : w6.cell? ⟨gb215, 1, none⟩ = some (.bool a1_1) := (qAc BK215.out 1).trans rfl
    have hcz11_2 : w6.cell? ⟨gb215, 2, none⟩ = some (.int .i64 a1_2) := (qAc BK215.out 2).trans rfl
    have hcz11_3 : w6.cell? ⟨gb215, 3, none⟩ = some (.string a1_3) := (qAc BK215.out 3).trans rfl
    have hcz11_4 : w6.cell? ⟨gb215, 4, none⟩ = some (.slice A1_4 l1_4.length c1_4) := (qAc BK215.out 4).trans rfl
    have hcz11_5 : w6.cell? ⟨gb215, 5, none⟩ = some (.slice A1_5 l1_5.length c1_5) := (qAc BK215.out 5).trans rfl
    have hfz11_0 := qAa BK215.out 0
    have hfz11_1 := qAa BK215.out 1
    have hfz11_2 := qAa BK215.out 2
    have hfz11_3 := qAa BK215.out 3
    have hfz11_4 := qAa BK215.out 4
    have hfz11_5 := qAa BK215.out 5
    go_wp2
    go_meet
    case rel => exact ⟨_, (true), (by first | rfl | (simp; done) | (simp [*]; done) | exact congrArg Value.bool (nil_ne _) | exact congrArg Value.bool (nil_eq _) | exact congrArg Value.bool (nil_ne' _)), H', ⟨by first | omega | exact Nat.le_refl _⟩, ⟨by (with_reducible repeat (first | refine qAf ?_ _ | refine qAh ?_ | refine blk_alloc ?_ _)); exact BK214.out⟩, ⟨by (with_reducible repeat (first | refine qAf ?_ _ | refine qAh ?_ | refine blk_alloc ?_ _)); exact BK215.out⟩, ⟨by repeat (first | (with_reducible first | exact HB.out | apply qAd | apply qAb | apply qAe | refine qAg ?_ GE214.out | refine qAg ?_ GE215.out) | exact HB.out)⟩⟩
   ·rw [if_neg c8] at H
    have c8b0 : (a0_1 != a1_1) = false := by simpa using c8
    (try (have c8b1 : decide (a0_1 = a1_1) = true := by simpa using c8))
    (try (have c8b2 : (a0_1 == a1_1) = true := by simpa using c8))
    clear c8
    by_cases c12 : a0_2 = a1_2
    ·rw [if_pos c12] at H
     have c12b0 : (a0_2 == a1_2) = true := beq_iff_eq.mpr c12
     have c12b1 : (a0_2 != a1_2) = false := bne_eq_false_iff_eq.mpr c12
     clear c12
     by_cases c13 : a0_3.toList = a1_3.toList
     ·rw [if_pos c13] at H
      have c13b0 : (a0_3.toList == a1_3.toList) = true := beq_iff_eq.mpr c13
      have c13b1 : (a0_3.toList != a1_3.toList) = false := bne_eq_false_iff_eq.mpr c13
      clear c13
      replace H := Option.bind_eq_some_iff.mp H
      obtain ⟨t216, A140, H⟩ := H
      replace H : (if t216 = true then (if (l0_4.length : Int) = (l1_4.length : Int) then (hogsheadlaw0_SameValue.j0 k a2 (decide (a2 < 1)) a0_0 a0_1 a0_2 a0_3 l0_4 l0_5 a1_0 a1_1 a1_2 a1_3 l1_4 l1_5) else (hogsheadlaw0_SameValue.j0 k a2 true a0_0 a0_1 a0_2 a0_3 l0_4 l0_5 a1_0 a1_1 a1_2 a1_3 l1_4 l1_5)) else (hogsheadlaw0_SameValue.j0 k a2 true a0_0 a0_1 a0_2 a0_3 l0_4 l0_5 a1_0 a1_1 a1_2 a1_3 l1_4 l1_5)) = some r := H
      have A14 := Aside0.mk A140
      clear A140
      by_cases c15 : t216 = true
      ·subst c15
       have H1 : (if (l0_4.length : Int) = (l1_4.length : Int) then (hogsheadlaw0_SameValue.j0 k a2 (decide (a2 < 1)) a0_0 a0_1 a0_2 a0_3 l0_4 l0_5 a1_0 a1_1 a1_2 a1_3 l1_4 l1_5) else (hogsheadlaw0_SameValue.j0 k a2 true a0_0 a0_1 a0_2 a0_3 l0_4 l0_5 a1_0 a1_1 a1_2 a1_3 l1_4 l1_5)) = some r := by rw [if_pos rfl] at H; exact H
       clear H
       have H := H1
       clear H1
       by_cases c16 : (l0_4.length : Int) = (l1_4.length : Int)
       ·rw [if_pos c16] at H
        have c16b0 : ((l0_4.length : Int) == (l1_4.length : Int)) = true := beq_iff_eq.mpr c16
        have c16b1 : ((l0_4.length : Int) != (l1_4.length : Int)) = false := bne_eq_false_iff_eq.mpr c16
        have c16b2 : (l0_4.length == l1_4.length) = true := by first | simpa using c16 | (simp at c16 ⊢; omega)
        clear c16
        have H' := Aside0.mk H
        clear H
        have hnb17 := NB214_215.out
        have hnc17 := NB215_214.out
        have hcz18_0 : w6.cell? ⟨gb214, 0, none⟩ = some (.int .i64 a0_0) := (qAc BK214.out 0).trans rfl
        have hcz18_1 : w6.cell? ⟨gb214, 1, none⟩ = some (.bool a0_1) := (qAc BK214.out 1).trans rfl
        have hcz18_2 : w6.cell? ⟨gb214, 2, none⟩ = some (.int .i64 a0_2) := (qAc BK214.out 2).trans rfl
        have hcz18_3 : w6.cell? ⟨gb214, 3, none⟩ = some (.string a0_3) := (qAc BK214.out 3).trans rfl
        have hcz18_4 : w6.cell? ⟨gb214, 4, none⟩ = some (.slice A0_4 l0_4.length c0_4) := (qAc BK214.out 4).trans rfl
        have hcz18_5 : w6.cell? ⟨gb214, 5, none⟩ = some (.slice A0_5 l0_5.length c0_5) := (qAc BK214.out 5).trans rfl
        have hfz18_0 := qAa BK214.out 0
        have hfz18_1 := qAa BK214.out 1
        have hfz18_2 := qAa BK214.out 2
        have hfz18_3 := qAa BK214.out 3
        have hfz18_4 := qAa BK214.out 4
        have hfz18_5 := qAa BK214.out 5
        have hcz19_0 : w6.cell? ⟨gb215, 0, none⟩ = some (.int .i64 a1_0) := (qAc BK215.out 0).trans rfl
        have hcz19_1 : w6.cell? ⟨gb215, 1, none⟩ = some (.bool a1_1) := (qAc BK215.out 1).trans rfl
        have hcz19_2 : w6.cell? ⟨gb215, 2, none⟩ = some (.int .i64 a1_2) := (qAc BK215.out 2).trans rfl
        have hcz19_3 : w6.cell? ⟨gb215, 3, none⟩ = some (.string a1_3) := (qAc BK215.out 3).trans rfl
        have hcz19_4 : w6.cell? ⟨gb215, 4, none⟩ = some (.slice A1_4 l1_4.length c1_4) := (qAc BK215.out 4).trans rfl
        have hcz19_5 : w6.cell? ⟨gb215, 5, none⟩ = some (.slice A1_5 l1_5.length c1_5) := (qAc BK215.out 5).trans rfl
        have hfz19_0 := qAa BK215.out 0
        have hfz19_1 := qAa BK215.out 1
        have hfz19_2 := qAa BK215.out 2
        have hfz19_3 := qAa BK215.out 3
        have hfz19_4 := qAa BK215.out 4
        have hfz19_5 := qAa BK215.out 5
        go_wp2_with (first | (go_at_call 55; (with_reducible refine (hogsheadlaw0_SameTexts.calls k _ _ l0_5 _ _ l1_5 true _ ?side1 ?side2 ?side3 ?side4 A14.out).mono ?_); (case side1 => repeat (first | exact (Kd.C_below HR0_5.out HB.out) | (with_reducible refine Kd.C_alloc ?_ _) | (with_reducible refine Kd.C_drewN ?_ _) | (with_reducible refine Kd.C_drew ?_))); (case side2 => exact HC0_5.out); (case side3 => repeat (first | exact (Kd.C_below HR1_5.out HB.out) | (with_reducible refine Kd.C_alloc ?_ _) | (with_reducible refine Kd.C_drewN ?_ _) | (with_reducible refine Kd.C_drew ?_))); (case side4 => exact HC1_5.out); rintro e w' ⟨rfl, ⟨nd, rfl⟩⟩))
        go_meet
        case rel => exact ⟨_, (decide (a2 < 1)), (by first | rfl | (simp; done) | (simp [*]; done) | exact congrArg Value.bool (nil_ne _) | exact congrArg Value.bool (nil_eq _) | exact congrArg Value.bool (nil_ne' _)), H', ⟨by first | omega | exact Nat.le_refl _⟩, ⟨by (with_reducible repeat (first | refine qAf ?_ _ | refine qAh ?_ | refine blk_alloc ?_ _)); exact BK214.out⟩, ⟨by (with_reducible repeat (first | refine qAf ?_ _ | refine qAh ?_ | refine blk_alloc ?_ _)); exact BK215.out⟩, ⟨by repeat (first | (with_reducible first | exact HB.out | apply qAd | apply qAb | apply qAe | refine qAg ?_ GE214.out | refine qAg ?_ GE215.out) | exact HB.out)⟩⟩
       ·rw [if_neg c16] at H
        have c16b0 : ((l0_4.length : Int) == (l1_4.length : Int)) = false := beq_eq_false_iff_ne.mpr c16
        have c16b1 : ((l0_4.length : Int) != (l1_4.length : Int)) = true := bne_iff_ne.mpr c16
        have c16b2 : (l0_4.length == l1_4.length) = false := by first | simpa using c16 | (simp at c16 ⊢; omega)
        have H' := Aside0.mk H
        clear H
        have hnb20 := NB214_215.out
        have hnc20 := NB215_214.out
        have hcz21_0 : w6.cell? ⟨gb214, 0, none⟩ = some (.int .i64 a0_0) := (qAc BK214.out 0).trans rfl
        have hcz21_1 : w6.cell? ⟨gb214, 1, none⟩ = some (.bool a0_1) := (qAc BK214.out 1).trans rfl
        have hcz21_2 : w6.cell? ⟨gb214, 2, none⟩ = some (.int .i64 a0_2) := (qAc BK214.out 2).trans rfl
        have hcz21_3 : w6.cell? ⟨gb214, 3, none⟩ = some (.string a0_3) := (qAc BK214.out 3).trans rfl
        have hcz21_4 : w6.cell? ⟨gb214, 4, none⟩ = some (.slice A0_4 l0_4.length c0_4) := (qAc BK214.out 4).trans rfl
        have hcz21_5 : w6.cell? ⟨gb214, 5, none⟩ = some (.slice A0_5 l0_5.length c0_5) := (qAc BK214.out 5).trans rfl
        have hfz21_0 := qAa BK214.out 0
        have hfz21_1 := qAa BK214.out 1
        have hfz21_2 := qAa BK214.out 2
        have hfz21_3 := qAa BK214.out 3
        have hfz21_4 := qAa BK214.out 4
        have hfz21_5 := qAa BK214.out 5
        have hcz22_0 : w6.cell? ⟨gb215, 0, none⟩ = some (.int .i64 a1_0) := (qAc BK215.out 0).trans rfl
        have hcz22_1 : w6.cell? ⟨gb215, 1, none⟩ = some (.bool a1_1) := (qAc BK215.out 1).trans rfl
        have hcz22_2 : w6.cell? ⟨gb215, 2, none⟩ = some (.int .i64 a1_2) := (qAc BK215.out 2).trans rfl
        have hcz22_3 : w6.cell? ⟨gb215, 3, none⟩ = some (.string a1_3) := (qAc BK215.out 3).trans rfl
        have hcz22_4 : w6.cell? ⟨gb215, 4, none⟩ = some (.slice A1_4 l1_4.length c1_4) := (qAc BK215.out 4).trans rfl
        have hcz22_5 : w6.cell? ⟨gb215, 5, none⟩ = some (.slice A1_5 l1_5.length c1_5) := (qAc BK215.out 5).trans rfl
        have hfz22_0 := qAa BK215.out 0
        have hfz22_1 := qAa BK215.out 1
        have hfz22_2 := qAa BK215.out 2
        have hfz22_3 := qAa BK215.out 3
        have hfz22_4 := qAa BK215.out 4
        have hfz22_5 := qAa BK215.out 5
        go_wp2_with (first | (go_at_call 55; (with_reducible refine (hogsheadlaw0_SameTexts.calls k _ _ l0_5 _ _ l1_5 true _ ?side1 ?side2 ?side3 ?side4 A14.out).mono ?_); (case side1 => repeat (first | exact (Kd.C_below HR0_5.out HB.out) | (with_reducible refine Kd.C_alloc ?_ _) | (with_reducible refine Kd.C_drewN ?_ _) | (with_reducible refine Kd.C_drew ?_))); (case side2 => exact HC0_5.out); (case side3 => repeat (first | exact (Kd.C_below HR1_5.out HB.out) | (with_reducible refine Kd.C_alloc ?_ _) | (with_reducible refine Kd.C_drewN ?_ _) | (with_reducible refine Kd.C_drew ?_))); (case side4 => exact HC1_5.out); rintro e w' ⟨rfl, ⟨nd, rfl⟩⟩))
        go_meet
        case rel => exact ⟨_, (true), (by first | rfl | (simp; done) | (simp [*]; done) | exact congrArg Value.bool (nil_ne _) | exact congrArg Value.bool (nil_eq _) | exact congrArg Value.bool (nil_ne' _)), H', ⟨by first | omega | exact Nat.le_refl _⟩, ⟨by (with_reducible repeat (first | refine qAf ?_ _ | refine qAh ?_ | refine blk_alloc ?_ _)); exact BK214.out⟩, ⟨by (with_reducible repeat (first | refine qAf ?_ _ | refine qAh ?_ | refine blk_alloc ?_ _)); exact BK215.out⟩, ⟨by repeat (first | (with_reducible first | exact HB.out | apply qAd | apply qAb | apply qAe | refine qAg ?_ GE214.out | refine qAg ?_ GE215.out) | exact HB.out)⟩⟩
      ·replace c15 := Bool.eq_false_iff.mpr c15
       subst c15
       have H1 : (hogsheadlaw0_SameValue.j0 k a2 true a0_0 a0_1 a0_2 a0_3 l0_4 l0_5 a1_0 a1_1 a1_2 a1_3 l1_4 l1_5) = some r := by rw [if_neg (show ¬ (false = true) by decide)] at H; exact H
       clear H
       have H := H1
       clear H1
       have H' := Aside0.mk H
       clear H
       have hnb23 := NB214_215.out
       have hnc23 := NB215_214.out
       have hcz24_0 : w6.cell? ⟨gb214, 0, none⟩ = some (.int .i64 a0_0) := (qAc BK214.out 0).trans rfl
       have hcz24_1 : w6.cell? ⟨gb214, 1, none⟩ = some (.bool a0_1) := (qAc BK214.out 1).trans rfl
       have hcz24_2 : w6.cell? ⟨gb214, 2, none⟩ = some (.int .i64 a0_2) := (qAc BK214.out 2).trans rfl
       have hcz24_3 : w6.cell? ⟨gb214, 3, none⟩ = some (.string a0_3) := (qAc BK214.out 3).trans rfl
       have hcz24_4 : w6.cell? ⟨gb214, 4, none⟩ = some (.slice A0_4 l0_4.length c0_4) := (qAc BK214.out 4).trans rfl
       have hcz24_5 : w6.cell? ⟨gb214, 5, none⟩ = some (.slice A0_5 l0_5.length c0_5) := (qAc BK214.out 5).trans rfl
       have hfz24_0 := qAa BK214.out 0
       have hfz24_1 := qAa BK214.out 1
       have hfz24_2 := qAa BK214.out 2
       have hfz24_3 := qAa BK214.out 3
       have hfz24_4 := qAa BK214.out 4
       have hfz24_5 := qAa BK214.out 5
       have hcz25_0 : w6.cell? ⟨gb215, 0, none⟩ = some (.int .i64 a1_0) := (qAc BK215.out 0).trans rfl
       have hcz25_1 : w6.cell? ⟨gb215, 1, none⟩ = some (.bool a1_1) := (qAc BK215.out 1).trans rfl
       have hcz25_2 : w6.cell? ⟨gb215, 2, none⟩ = some (.int .i64 a1_2) := (qAc BK215.out 2).trans rfl
       have hcz25_3 : w6.cell? ⟨gb215, 3, none⟩ = some (.string a1_3) := (qAc BK215.out 3).trans rfl
       have hcz25_4 : w6.cell? ⟨gb215, 4, none⟩ = some (.slice A1_4 l1_4.length c1_4) := (qAc BK215.out 4).trans rfl
       have hcz25_5 : w6.cell? ⟨gb215, 5, none⟩ = some (.slice A1_5 l1_5.length c1_5) := (qAc BK215.out 5).trans rfl
       have hfz25_0 := qAa BK215.out 0
       have hfz25_1 := qAa BK215.out 1
       have hfz25_2 := qAa BK215.out 2
       have hfz25_3 := qAa BK215.out 3
       have hfz25_4 := qAa BK215.out 4
       have hfz25_5 := qAa BK215.out 5
       go_wp2_with (first | (go_at_call 55; (with_reducible refine (hogsheadlaw0_SameTexts.calls k _ _ l0_5 _ _ l1_5 false _ ?side1 ?side2 ?side3 ?side4 A14.out).mono ?_); (case side1 => repeat (first | exact (Kd.C_below HR0_5.out HB.out) | (with_reducible refine Kd.C_alloc ?_ _) | (with_reducible refine Kd.C_drewN ?_ _) | (with_reducible refine Kd.C_drew ?_))); (case side2 => exact HC0_5.out); (case side3 => repeat (first | exact (Kd.C_below HR1_5.out HB.out) | (with_reducible refine Kd.C_alloc ?_ _) | (with_reducible refine Kd.C_drewN ?_ _) | (with_reducible refine Kd.C_drew ?_))); (case side4 => exact HC1_5.out); rintro e w' ⟨rfl, ⟨nd, rfl⟩⟩))
       go_meet
       case rel => exact ⟨_, (true), (by first | rfl | (simp; done) | (simp [*]; done) | exact congrArg Value.bool (nil_ne _) | exact congrArg Value.bool (nil_eq _) | exact congrArg Value.bool (nil_ne' _)), H', ⟨by first | omega | exact Nat.le_refl _⟩, ⟨by (with_reducible repeat (first | refine qAf ?_ _ | refine qAh ?_ | refine blk_alloc ?_ _)); exact BK214.out⟩, ⟨by (with_reducible repeat (first | refine qAf ?_ _ | refine qAh ?_ | refine blk_alloc ?_ _)); exact BK215.out⟩, ⟨by repeat (first | (with_reducible first | exact HB.out | apply qAd | apply qAb | apply qAe | refine qAg ?_ GE214.out | refine qAg ?_ GE215.out) | exact HB.out)⟩⟩
     ·rw [if_neg c13] at H
      have c13b0 : (a0_3.toList == a1_3.toList) = false := beq_eq_false_iff_ne.mpr c13
      have c13b1 : (a0_3.toList != a1_3.toList) = true := bne_iff_ne.mpr c13
      have H' := Aside0.mk H
      clear H
      have hnb26 := NB214_215.out
      have hnc26 := NB215_214.out
      have hcz27_0 : w6.cell? ⟨gb214, 0, none⟩ = some (.int .i64 a0_0) := (qAc BK214.out 0).trans rfl
      have hcz27_1 : w6.cell? ⟨gb214, 1, none⟩ = some (.bool a0_1) := (qAc BK214.out 1).trans rfl
      have hcz27_2 : w6.cell? ⟨gb214, 2, none⟩ = some (.int .i64 a0_2) := (qAc BK214.out 2).trans rfl
      have hcz27_3 : w6.cell? ⟨gb214, 3, none⟩ = some (.string a0_3) := (qAc BK214.out 3).trans rfl
      have hcz27_4 : w6.cell? ⟨gb214, 4, none⟩ = some (.slice A0_4 l0_4.length c0_4) := (qAc BK214.out 4).trans rfl
      have hcz27_5 : w6.cell? ⟨gb214, 5, none⟩ = some (.slice A0_5 l0_5.length c0_5) := (qAc BK214.out 5).trans rfl
      have hfz27_0 := qAa BK214.out 0
      have hfz27_1 := qAa BK214.out 1
      have hfz27_2 := qAa BK214.out 2
      have hfz27_3 := qAa BK214.out 3
      have hfz27_4 := qAa BK214.out 4
      have hfz27_5 := qAa BK214.out 5
      have hcz28_0 : w6.cell? ⟨gb215, 0, none⟩ = some (.int .i64 a1_0) := (qAc BK215.out 0).trans rfl
      have hcz28_1 : w6.cell? ⟨gb215, 1, none⟩ = some (.bool a1_1) := (qAc BK215.out 1).trans rfl
      have hcz28_2 : w6.cell? ⟨gb215, 2, none⟩ = some (.int .i64 a1_2) := (qAc BK215.out 2).trans rfl
      have hcz28_3 : w6.cell? ⟨gb215, 3, none⟩ = some (.string a1_3) := (qAc BK215.out 3).trans rfl
      have hcz28_4 : w6.cell? ⟨gb215, 4, none⟩ = some (.slice A1_4 l1_4.length c1_4) := (qAc BK215.out 4).trans rfl
      have hcz28_5 : w6.cell? ⟨gb215, 5, none⟩ = some (.slice A1_5 l1_5.length c1_5) := (qAc BK215.out 5).trans rfl
      have hfz28_0 := qAa BK215.out 0
      have hfz28_1 := qAa BK215.out 1
      have hfz28_2 := qAa BK215.out 2
      have hfz28_3 := qAa BK215.out 3
      have hfz28_4 := qAa BK215.out 4
      have hfz28_5 := qAa BK215.out 5
      go_wp2
      go_meet
      case rel => exact ⟨_, (true), (by first | rfl | (simp; done) | (simp [*]; done) | exact congrArg Value.bool (nil_ne _) | exact congrArg Value.bool (nil_eq _) | exact congrArg Value.bool (nil_ne' _)), H', ⟨by first | omega | exact Nat.le_refl _⟩, ⟨by (with_reducible repeat (first | refine qAf ?_ _ | refine qAh ?_ | refine blk_alloc ?_ _)); exact BK214.out⟩, ⟨by (with_reducible repeat (first | refine qAf ?_ _ | refine qAh ?_ | refine blk_alloc ?_ _)); exact BK215.out⟩, ⟨by repeat (first | (with_reducible first | exact HB.out | apply qAd | apply qAb | apply qAe | refine qAg ?_ GE214.out | refine qAg ?_ GE215.out) | exact HB.out)⟩⟩
    ·rw [if_neg c12] at H
     have c12b0 : (a0_2 == a1_2) = false := beq_eq_false_iff_ne.mpr c12
     have c12b1 : (a0_2 != a1_2) = true := bne_iff_ne.mpr c12
     have H' := Aside0.mk H
     clear H
     have hnb29 := NB214_215.out
     have hnc29 := NB215_214.out
     have hcz30_0 : w6.cell? ⟨gb214, 0, none⟩ = some (.int .i64 a0_0) := (qAc BK214.out 0).trans rfl
     have hcz30_1 : w6.cell? ⟨gb214, 1, none⟩ = some (.bool a0_1) := (qAc BK214.out 1).trans rfl
     have hcz30_2 : w6.cell? ⟨gb214, 2, none⟩ = some (.int .i64 a0_2) := (qAc BK214.out 2).trans rfl
     have hcz30_3 : w6.cell? ⟨gb214, 3, none⟩ = some (.string a0_3) := (qAc BK214.out 3).trans rfl
     have hcz30_4 : w6.cell? ⟨gb214, 4, none⟩ = some (.slice A0_4 l0_4.length c0_4) := (qAc BK214.out 4).trans rfl
     have hcz30_5 : w6.cell? ⟨gb214, 5, none⟩ = some (.slice A0_5 l0_5.length c0_5) := (qAc BK214.out 5).trans rfl
     have hfz30_0 := qAa BK214.out 0
     have hfz30_1 := qAa BK214.out 1
     have hfz30_2 := qAa BK214.out 2
     have hfz30_3 := qAa BK214.out 3
     have hfz30_4 := qAa BK214.out 4
     have hfz30_5 := qAa BK214.out 5
     have hcz31_0 : w6.cell? ⟨gb215, 0, none⟩ = some (.int .i64 a1_0) := (qAc BK215.out 0).trans rfl
     have hcz31_1 : w6.cell? ⟨gb215, 1, none⟩ = some (.bool a1_1) := (qAc BK215.out 1).trans rfl
     have hcz31_2 : w6.cell? ⟨gb215, 2, none⟩ = some (.int .i64 a1_2) := (qAc BK215.out 2).trans rfl
     have hcz31_3 : w6.cell? ⟨gb215, 3, none⟩ = some (.string a1_3) := (qAc BK215.out 3).trans rfl
     have hcz31_4 : w6.cell? ⟨gb215, 4, none⟩ = some (.slice A1_4 l1_4.length c1_4) := (qAc BK215.out 4).trans rfl
     have hcz31_5 : w6.cell? ⟨gb215, 5, none⟩ = some (.slice A1_5 l1_5.length c1_5) := (qAc BK215.out 5).trans rfl
     have hfz31_0 := qAa BK215.out 0
     have hfz31_1 := qAa BK215.out 1
     have hfz31_2 := qAa BK215.out 2
     have hfz31_3 := qAa BK215.out 3
     have hfz31_4 := qAa BK215.out 4
     have hfz31_5 := qAa BK215.out 5
     go_wp2
     go_meet
     case rel => exact ⟨_, (true), (by first | rfl | (simp; done) | (simp [*]; done) | exact congrArg Value.bool (nil_ne _) | exact congrArg Value.bool (nil_eq _) | exact congrArg Value.bool (nil_ne' _)), H', ⟨by first | omega | exact Nat.le_refl _⟩, ⟨by (with_reducible repeat (first | refine qAf ?_ _ | refine qAh ?_ | refine blk_alloc ?_ _)); exact BK214.out⟩, ⟨by (with_reducible repeat (first | refine qAf ?_ _ | refine qAh ?_ | refine blk_alloc ?_ _)); exact BK215.out⟩, ⟨by repeat (first | (with_reducible first | exact HB.out | apply qAd | apply qAb | apply qAe | refine qAg ?_ GE214.out | refine qAg ?_ GE215.out) | exact HB.out)⟩⟩
  ·rw [if_neg c7] at H
   have c7b0 : (a0_0 == a1_0) = false := beq_eq_false_iff_ne.mpr c7
   have c7b1 : (a0_0 != a1_0) = true := bne_iff_ne.mpr c7
   (first | rw [c7b0] | (simp only [i64_w, i32_w]; rw [c7b0]) | skip)
   have H' := Aside0.mk H
   clear H
   have hnb32 := NB214_215.out
   have hnc32 := NB215_214.out
   have hcz33_0 : w6.cell? ⟨gb214, 0, none⟩ = some (.int .i64 a0_0) := (qAc BK214.out 0).trans rfl
   have hcz33_1 : w6.cell? ⟨gb214, 1, none⟩ = some (.bool a0_1) := (qAc BK214.out 1).trans rfl
   have hcz33_2 : w6.cell? ⟨gb214, 2, none⟩ = some (.int .i64 a0_2) := (qAc BK214.out 2).trans rfl
   have hcz33_3 : w6.cell? ⟨gb214, 3, none⟩ = some (.string a0_3) := (qAc BK214.out 3).trans rfl
   have hcz33_4 : w6.cell? ⟨gb214, 4, none⟩ = some (.slice A0_4 l0_4.length c0_4) := (qAc BK214.out 4).trans rfl
   have hcz33_5 : w6.cell? ⟨gb214, 5, none⟩ = some (.slice A0_5 l0_5.length c0_5) := (qAc BK214.out 5).trans rfl
   have hfz33_0 := qAa BK214.out 0
   have hfz33_1 := qAa BK214.out 1
   have hfz33_2 := qAa BK214.out 2
   have hfz33_3 := qAa BK214.out 3
   have hfz33_4 := qAa BK214.out 4
   have hfz33_5 := qAa BK214.out 5
   have hcz34_0 : w6.cell? ⟨gb215, 0, none⟩ = some (.int .i64 a1_0) := (qAc BK215.out 0).trans rfl
   have hcz34_1 : w6.cell? ⟨gb215, 1, none⟩ = some (.bool a1_1) := (qAc BK215.out 1).trans rfl
   have hcz34_2 : w6.cell? ⟨gb215, 2, none⟩ = some (.int .i64 a1_2) := (qAc BK215.out 2).trans rfl
   have hcz34_3 : w6.cell? ⟨gb215, 3, none⟩ = some (.string a1_3) := (qAc BK215.out 3).trans rfl
   have hcz34_4 : w6.cell? ⟨gb215, 4, none⟩ = some (.slice A1_4 l1_4.length c1_4) := (qAc BK215.out 4).trans rfl
   have hcz34_5 : w6.cell? ⟨gb215, 5, none⟩ = some (.slice A1_5 l1_5.length c1_5) := (qAc BK215.out 5).trans rfl
   have hfz34_0 := qAa BK215.out 0
   have hfz34_1 := qAa BK215.out 1
   have hfz34_2 := qAa BK215.out 2
   have hfz34_3 := qAa BK215.out 3
   have hfz34_4 := qAa BK215.out 4
   have hfz34_5 := qAa BK215.out 5
   go_wp2
   go_meet
   case rel => exact ⟨_, (true), (by first | rfl | (simp; done) | (simp [*]; done) | exact congrArg Value.bool (nil_ne _) | exact congrArg Value.bool (nil_eq _) | exact congrArg Value.bool (nil_ne' _)), H', ⟨by first | omega | exact Nat.le_refl _⟩, ⟨by (with_reducible repeat (first | refine qAf ?_ _ | refine qAh ?_ | refine blk_alloc ?_ _)); exact BK214.out⟩, ⟨by (with_reducible repeat (first | refine qAf ?_ _ | refine qAh ?_ | refine blk_alloc ?_ _)); exact BK215.out⟩, ⟨by repeat (first | (with_reducible first | exact HB.out | apply qAd | apply qAb | apply qAe | refine qAg ?_ GE214.out | refine qAg ?_ GE215.out) | exact HB.out)⟩⟩
 case rest =>
  clear HC4
  try clear c1
  try clear c2
  try clear p2
  try clear c3
  try clear c7
  try clear c7b0
  try clear c7b1
  try clear c8
  try clear c8b0
  try clear c8b1
  try clear c8b2
  try clear c9
  try clear c12
  try clear c12b0
  try clear c12b1
  try clear c13
  try clear c13b0
  try clear c13b1
  try clear c15
  try clear c16
  try clear c16b0
  try clear c16b1
  try clear c16b2
  try clear c17
  try clear c20
  try clear c23
  try clear c25
  try clear c26
  try clear c29
  try clear c32
  try clear hcz10_0
  try clear hcz10_1
  try clear hcz10_2
  try clear hcz10_3
  try clear hcz10_4
  try clear hcz10_5
  try clear hcz11_0
  try clear hcz11_1
  try clear hcz11_2
  try clear hcz11_3
  try clear hcz11_4
  try clear hcz11_5
  try clear hcz18_0
  try clear hcz18_1
  try clear hcz18_2
  try clear hcz18_3
  try clear hcz18_4
  try clear hcz18_5
  try clear hcz19_0
  try clear hcz19_1
  try clear hcz19_2
  try clear hcz19_3
  try clear hcz19_4
  try clear hcz19_5
  try clear hcz21_0
  try clear hcz21_1
  try clear hcz21_2
  try clear hcz21_3
  try clear hcz21_4
  try clear hcz21_5
  try clear hcz22_0
  try clear hcz22_1
  try clear hcz22_2
  try clear hcz22_3
  try clear hcz22_4
  try clear hcz22_5
  try clear hcz24_0
  try clear hcz24_1
  try clear hcz24_2
  try clear hcz24_3
  try clear hcz24_4
  try clear hcz24_5
  try clear hcz25_0
  try clear hcz25_1
  try clear hcz25_2
  try clear hcz25_3
  try clear hcz25_4
  try clear hcz25_5
  try clear hcz27_0
  try clear hcz27_1
  try clear hcz27_2
  try clear hcz27_3
  try clear hcz27_4
  try clear hcz27_5
  try clear hcz28_0
  try clear hcz28_1
  try clear hcz28_2
  try clear hcz28_3
  try clear hcz28_4
  try clear hcz28_5
  try clear hcz30_0
  try clear hcz30_1
  try clear hcz30_2
  try clear hcz30_3
  try clear hcz30_4
  try clear hcz30_5
  try clear hcz31_0
  try clear hcz31_1
  try clear hcz31_2
  try clear hcz31_3
  try clear hcz31_4
  try clear hcz31_5
  try clear hcz33_0
  try clear hcz33_1
  try clear hcz33_2
  try clear hcz33_3
  try clear hcz33_4
  try clear hcz33_5
  try clear hcz34_0
  try clear hcz34_1
  try clear hcz34_2
  try clear hcz34_3
  try clear hcz34_4
  try clear hcz34_5
  try clear hfz10_0
  try clear hfz10_1
  try clear hfz10_2
  try clear hfz10_3
  try clear hfz10_4
  try clear hfz10_5
  try clear hfz11_0
  try clear hfz11_1
  try clear hfz11_2
  try clear hfz11_3
  try clear hfz11_4
  try clear hfz11_5
  try clear hfz18_0
  try clear hfz18_1
  try clear hfz18_2
  try clear hfz18_3
  try clear hfz18_4
  try clear hfz18_5
  try clear hfz19_0
  try clear hfz19_1
  try clear hfz19_2
  try clear hfz19_3
  try clear hfz19_4
  try clear hfz19_5
  try clear hfz21_0
  try clear hfz21_1
  try clear hfz21_2
  try clear hfz21_3
  try clear hfz21_4
  try clear hfz21_5
  try clear hfz22_0
  try clear hfz22_1
  try clear hfz22_2
  try clear hfz22_3
  try clear hfz22_4
  try clear hfz22_5
  try clear hfz24_0
  try clear hfz24_1
  try clear hfz24_2
  try clear hfz24_3
  try clear hfz24_4
  try clear hfz24_5
  try clear hfz25_0
  try clear hfz25_1
  try clear hfz25_2
  try clear hfz25_3
  try clear hfz25_4
  try clear hfz25_5
  try clear hfz27_0
  try clear hfz27_1
  try clear hfz27_2
  try clear hfz27_3
  try clear hfz27_4
  try clear hfz27_5
  try clear hfz28_0
  try clear hfz28_1
  try clear hfz28_2
  try clear hfz28_3
  try clear hfz28_4
  try clear hfz28_5
  try clear hfz30_0
  try clear hfz30_1
  try clear hfz30_2
  try clear hfz30_3
  try clear hfz30_4
  try clear hfz30_5
  try clear hfz31_0
  try clear hfz31_1
  try clear hfz31_2
  try clear hfz31_3
  try clear hfz31_4
  try clear hfz31_5
  try clear hfz33_0
  try clear hfz33_1
  try clear hfz33_2
  try clear hfz33_3
  try clear hfz33_4
  try clear hfz33_5
  try clear hfz34_0
  try clear hfz34_1
  try clear hfz34_2
  try clear hfz34_3
  try clear hfz34_4
  try clear hfz34_5
  obtain ⟨kq, x54_3, rfl, HA, HJ3, BK214, BK215, HB⟩ := hcut
  cases kq with
  | zero => exact absurd HA.out (by simp [hogsheadlaw0_SameValue.j0])
  | succ kj3 =>
   have H := HA.out
   clear HA
   simp only [hogsheadlaw0_SameValue.j0] at H
   by_cases c35 : x54_3 = true
   ·subst c35
    have H1 : (some false) = some r := by rw [if_pos rfl] at H; exact H
    clear H
    have H := H1
    clear H1
    obtain rfl := Option.some.inj H
    go_wp2
    go_ret
    exact ⟨by first | rfl | (simp [qAm, qAl] <;> rfl) | (simp [*, qAm, qAl] <;> rfl), by repeat (first | (with_reducible first | exact HB.out | apply qAd | apply qAb | apply qAe | refine qAg ?_ GE214.out | refine qAg ?_ GE215.out) | exact HB.out)⟩
   ·replace c35 := Bool.eq_false_iff.mpr c35
    subst c35
    have H1 : (hogsheadlaw0_SameValue.l0 kj3 a2 0 a0_0 a0_1 a0_2 a0_3 l0_4 l0_5 a1_0 a1_1 a1_2 a1_3 l1_4 l1_5) = some r := by rw [if_neg (show ¬ (false = true) by decide)] at H; exact H
    clear H
    have H := H1
    clear H1
    have H' := Aside0.mk H
    clear H
    go_wp2
    go_loopg [7] kj3 (fun kq v7 w' => ∃ (x7_2 : Int), v7 = .int .i64 x7_2 ∧ Aside0 (hogsheadlaw0_SameValue.l0 kq a2 x7_2 a0_0 a0_1 a0_2 a0_3 l0_4 l0_5 a1_0 a1_1 a1_2 a1_3 l1_4 l1_5 = some r) ∧ Aside0 (kq ≤ kj3) ∧ Aside0 (w'.heap[gb214]? = some (.cells #[.int .i64 a0_0, .bool a0_1, .int .i64 a0_2, .string a0_3, (.slice A0_4 l0_4.length c0_4), (.slice A0_5 l0_5.length c0_5)] 25 (0, 0))) ∧ Aside0 (w'.heap[gb215]? = some (.cells #[.int .i64 a1_0, .bool a1_1, .int .i64 a1_2, .string a1_3, (.slice A1_4 l1_4.length c1_4), (.slice A1_5 l1_5.length c1_5)] 25 (0, 0))) ∧ Aside0 (Below w.heap.size w w'))
    case atStart => exact ⟨(0), (by first | rfl | (simp; done) | (simp [*]; done) | exact congrArg Value.bool (nil_ne _) | exact congrArg Value.bool (nil_eq _) | exact congrArg Value.bool (nil_ne' _)), H', ⟨Nat.le_refl _⟩, ⟨by (with_reducible repeat (first | refine qAf ?_ _ | refine qAh ?_ | refine blk_alloc ?_ _)); exact BK214.out⟩, ⟨by (with_reducible repeat (first | refine qAf ?_ _ | refine qAh ?_ | refine blk_alloc ?_ _)); exact BK215.out⟩, ⟨by repeat (first | (with_reducible first | exact HB.out | apply qAd | apply qAb | apply qAe | refine qAg ?_ GE214.out | refine qAg ?_ GE215.out) | exact HB.out)⟩⟩
    case round =>
     clear H'
     try clear c1
     try clear c2
     try clear p2
     try clear c3
     try clear c7
     try clear c7b0
     try clear c7b1
     try clear c8
     try clear c8b0
     try clear c8b1
     try clear c8b2
     try clear c9
     try clear c12
     try clear c12b0
     try clear c12b1
     try clear c13
     try clear c13b0
     try clear c13b1
     try clear c15
     try clear c16
     try clear c16b0
     try clear c16b1
     try clear c16b2
     try clear c17
     try clear c20
     try clear c23
     try clear c25
     try clear c26
     try clear c29
     try clear c32
     try clear c35
     try clear hcz10_0
     try clear hcz10_1
     try clear hcz10_2
     try clear hcz10_3
     try clear hcz10_4
     try clear hcz10_5
     try clear hcz11_0
     try clear hcz11_1
     try clear hcz11_2
     try clear hcz11_3
     try clear hcz11_4
     try clear hcz11_5
     try clear hcz18_0
     try clear hcz18_1
     try clear hcz18_2
     try clear hcz18_3
     try clear hcz18_4
     try clear hcz18_5
     try clear hcz19_0
     try clear hcz19_1
     try clear hcz19_2
     try clear hcz19_3
     try clear hcz19_4
     try clear hcz19_5
     try clear hcz21_0
     try clear hcz21_1
     try clear hcz21_2
     try clear hcz21_3
     try clear hcz21_4
     try clear hcz21_5
     try clear hcz22_0
     try clear hcz22_1
     try clear hcz22_2
     try clear hcz22_3
     try clear hcz22_4
     try clear hcz22_5
     try clear hcz24_0
     try clear hcz24_1
     try clear hcz24_2
     try clear hcz24_3
     try clear hcz24_4
     try clear hcz24_5
     try clear hcz25_0
     try clear hcz25_1
     try clear hcz25_2
     try clear hcz25_3
     try clear hcz25_4
     try clear hcz25_5
     try clear hcz27_0
     try clear hcz27_1
     try clear hcz27_2
     try clear hcz27_3
     try clear hcz27_4
     try clear hcz27_5
     try clear hcz28_0
     try clear hcz28_1
     try clear hcz28_2
     try clear hcz28_3
     try clear hcz28_4
     try clear hcz28_5
     try clear hcz30_0
     try clear hcz30_1
     try clear hcz30_2
     try clear hcz30_3
     try clear hcz30_4
     try clear hcz30_5
     try clear hcz31_0
     try clear hcz31_1
     try clear hcz31_2
     try clear hcz31_3
     try clear hcz31_4
     try clear hcz31_5
     try clear hcz33_0
     try clear hcz33_1
     try clear hcz33_2
     try clear hcz33_3
     try clear hcz33_4
     try clear hcz33_5
     try clear hcz34_0
     try clear hcz34_1
     try clear hcz34_2
     try clear hcz34_3
     try clear hcz34_4
     try clear hcz34_5
     try clear hfz10_0
     try clear hfz10_1
     try clear hfz10_2
     try clear hfz10_3
     try clear hfz10_4
     try clear hfz10_5
     try clear hfz11_0
     try clear hfz11_1
     try clear hfz11_2
     try clear hfz11_3
     try clear hfz11_4
     try clear hfz11_5
     try clear hfz18_0
     try clear hfz18_1
     try clear hfz18_2
     try clear hfz18_3
     try clear hfz18_4
     try clear hfz18_5
     try clear hfz19_0
     try clear hfz19_1
     try clear hfz19_2
     try clear hfz19_3
     try clear hfz19_4
     try clear hfz19_5
     try clear hfz21_0
     try clear hfz21_1
     try clear hfz21_2
     try clear hfz21_3
     try clear hfz21_4
     try clear hfz21_5
     try clear hfz22_0
     try clear hfz22_1
     try clear hfz22_2
     try clear hfz22_3
     try clear hfz22_4
     try clear hfz22_5
     try clear hfz24_0
     try clear hfz24_1
     try clear hfz24_2
     try clear hfz24_3
     try clear hfz24_4
     try clear hfz24_5
     try clear hfz25_0
     try clear hfz25_1
     try clear hfz25_2
     try clear hfz25_3
     try clear hfz25_4
     try clear hfz25_5
     try clear hfz27_0
     try clear hfz27_1
     try clear hfz27_2
     try clear hfz27_3
     try clear hfz27_4
     try clear hfz27_5
     try clear hfz28_0
     try clear hfz28_1
     try clear hfz28_2
     try clear hfz28_3
     try clear hfz28_4
     try clear hfz28_5
     try clear hfz30_0
     try clear hfz30_1
     try clear hfz30_2
     try clear hfz30_3
     try clear hfz30_4
     try clear hfz30_5
     try clear hfz31_0
     try clear hfz31_1
     try clear hfz31_2
     try clear hfz31_3
     try clear hfz31_4
     try clear hfz31_5
     try clear hfz33_0
     try clear hfz33_1
     try clear hfz33_2
     try clear hfz33_3
     try clear hfz33_4
     try clear hfz33_5
     try clear hfz34_0
     try clear hfz34_1
     try clear hfz34_2
     try clear hfz34_3
     try clear hfz34_4
     try clear hfz34_5
     try clear p2
     obtain ⟨x7_2, rfl, HA, HK2, BK214, BK215, HB⟩ := hrel
     cases gk with
     | zero => exact absurd HA.out (by simp [hogsheadlaw0_SameValue.l0])
     | succ k2 =>
      have H := HA.out
      clear HA
      simp only [hogsheadlaw0_SameValue.l0] at H
      by_cases c36 : x7_2 < (l0_4.length : Int)
      ·rw [if_pos c36] at H
       have c36b0 : decide (x7_2 < (l0_4.length : Int)) = true := decide_eq_true c36
       clear c36
       by_cases c37 : 0 ≤ x7_2
       ·rw [if_pos c37] at H
        have c37b0 : decide (0 ≤ x7_2) = true := decide_eq_true c37
        clear c37
        by_cases c38 : x7_2 < (l1_4.length : Int)
        ·rw [if_pos c38] at H
         have c38b0 : decide (x7_2 < (l1_4.length : Int)) = true := decide_eq_true c38
         clear c38
         replace H := Option.bind_eq_some_iff.mp H
         obtain ⟨t219, A390, H⟩ := H
         replace H : (if t219 = true then (hogsheadlaw0_SameValue.l0 k2 a2 (wrap64 (x7_2 + 1)) a0_0 a0_1 a0_2 a0_3 l0_4 l0_5 a1_0 a1_1 a1_2 a1_3 l1_4 l1_5) else (some false)) = some r := H
         have A39 := Aside0.mk A390
         clear A390
         by_cases c40 : t219 = true
         ·subst c40
          have H1 : (hogsheadlaw0_SameValue.l0 k2 a2 (wrap64 (x7_2 + 1)) a0_0 a0_1 a0_2 a0_3 l0_4 l0_5 a1_0 a1_1 a1_2 a1_3 l1_4 l1_5) = some r := by rw [if_pos rfl] at H; exact H
          clear H
          have H := H1
          clear H1
          have H' := Aside0.mk H
          clear H
          have hnb41 := NB214_215.out
          have hnc41 := NB215_214.out
          have hcz42_0 : wr.cell? ⟨gb214, 0, none⟩ = some (.int .i64 a0_0) := (qAc BK214.out 0).trans rfl
          have hcz42_1 : wr.cell? ⟨gb214, 1, none⟩ = some (.bool a0_1) := (qAc BK214.out 1).trans rfl
          have hcz42_2 : wr.cell? ⟨gb214, 2, none⟩ = some (.int .i64 a0_2) := (qAc BK214.out 2).trans rfl
          have hcz42_3 : wr.cell? ⟨gb214, 3, none⟩ = some (.string a0_3) := (qAc BK214.out 3).trans rfl
          have hcz42_4 : wr.cell? ⟨gb214, 4, none⟩ = some (.slice A0_4 l0_4.length c0_4) := (qAc BK214.out 4).trans rfl
          have hcz42_5 : wr.cell? ⟨gb214, 5, none⟩ = some (.slice A0_5 l0_5.length c0_5) := (qAc BK214.out 5).trans rfl
          have hfz42_0 := qAa BK214.out 0
          have hfz42_1 := qAa BK214.out 1
          have hfz42_2 := qAa BK214.out 2
          have hfz42_3 := qAa BK214.out 3
          have hfz42_4 := qAa BK214.out 4
          have hfz42_5 := qAa BK214.out 5
          try go_wp2
          have n0_ := Aside0.mk (qAh BK214.out)
          have n1_ := Aside0.mk (qAh BK215.out)
          have n2_ := Aside0.mk (qAe HB.out)
          clear BK214
          clear BK215
          clear HB
          have BK214 := n0_
          have BK215 := n1_
          have HB := n2_
          clear n0_ n1_ n2_
          have p217 : 0 ≤ (x7_2 : Int) := of_decide_eq_true (by first | (with_reducible assumption) | assumption)
          have q217 : x7_2 < (l0_4.length : Int) := of_decide_eq_true (by first | (with_reducible assumption) | assumption)
          obtain ⟨ad217, A217_4, c217_4, A217_5, c217_5, e217, hx217_0, hx217_1, hx217_2, hx217_3, hx217_4, hx217_5, hl217_4, hi217_4, hl217_5, hi217_5⟩ := at_T25 HR0_4.out x7_2 p217 q217
          have hw217_5 := hx217_5
          have hw217_4 := hx217_4
          have hw217_3 := hx217_3
          have hw217_2 := hx217_2
          have hw217_1 := hx217_1
          have hw217_0 := hx217_0
          cases e217
          replace hx217_0 := (HB.out.cell (World.block_lt_of_cell? w _ hx217_0)).trans hx217_0
          replace hx217_1 := (HB.out.cell (World.block_lt_of_cell? w _ hx217_1)).trans hx217_1
          replace hx217_2 := (HB.out.cell (World.block_lt_of_cell? w _ hx217_2)).trans hx217_2
          replace hx217_3 := (HB.out.cell (World.block_lt_of_cell? w _ hx217_3)).trans hx217_3
          replace hx217_4 := (HB.out.cell (World.block_lt_of_cell? w _ hx217_4)).trans hx217_4
          replace hx217_5 := (HB.out.cell (World.block_lt_of_cell? w _ hx217_5)).trans hx217_5
          have HR217_4 := Aside0.mk hi217_4
          have HC217_4 := Aside0.mk hl217_4
          clear hi217_4 hl217_4
          have HR217_5 := Aside0.mk hi217_5
          have HC217_5 := Aside0.mk hl217_5
          clear hi217_5 hl217_5
          replace p217 := eq_true p217
          replace q217 := eq_true q217
          have p218 : 0 ≤ (x7_2 : Int) := of_decide_eq_true (by first | (with_reducible assumption) | assumption)
          have q218 : x7_2 < (l1_4.length : Int) := of_decide_eq_true (by first | (with_reducible assumption) | assumption)
          obtain ⟨ad218, A218_4, c218_4, A218_5, c218_5, e218, hx218_0, hx218_1, hx218_2, hx218_3, hx218_4, hx218_5, hl218_4, hi218_4, hl218_5, hi218_5⟩ := at_T25 HR1_4.out x7_2 p218 q218
          have hw218_5 := hx218_5
          have hw218_4 := hx218_4
          have hw218_3 := hx218_3
          have hw218_2 := hx218_2
          have hw218_1 := hx218_1
          have hw218_0 := hx218_0
          cases e218
          replace hx218_0 := (HB.out.cell (World.block_lt_of_cell? w _ hx218_0)).trans hx218_0
          replace hx218_1 := (HB.out.cell (World.block_lt_of_cell? w _ hx218_1)).trans hx218_1
          replace hx218_2 := (HB.out.cell (World.block_lt_of_cell? w _ hx218_2)).trans hx218_2
          replace hx218_3 := (HB.out.cell (World.block_lt_of_cell? w _ hx218_3)).trans hx218_3
          replace hx218_4 := (HB.out.cell (World.block_lt_of_cell? w _ hx218_4)).trans hx218_4
          replace hx218_5 := (HB.out.cell (World.block_lt_of_cell? w _ hx218_5)).trans hx218_5
          have HR218_4 := Aside0.mk hi218_4
          have HC218_4 := Aside0.mk hl218_4
          clear hi218_4 hl218_4
          have HR218_5 := Aside0.mk hi218_5
          have HC218_5 := Aside0.mk hl218_5
          clear hi218_5 hl218_5
          replace p218 := eq_true p218
          replace q218 := eq_true q218
          refine start_ (n := 14) (S := fun w' => w'.cell? ⟨gb214, 0, none⟩ = some (.int .i64 a0_0) ∧ w'.cell? ⟨gb214, 1, none⟩ = some (.bool a0_1) ∧ w'.cell? ⟨gb214, 2, none⟩ = some (.int .i64 a0_2) ∧ w'.cell? ⟨gb214, 3, none⟩ = some (.string a0_3) ∧ w'.cell? ⟨gb214, 4, none⟩ = some (.slice (some ad217) l0_4.length c0_4) ∧ w'.cell? ⟨gb214, 5, none⟩ = some (.slice A0_5 l0_5.length c0_5) ∧ w'.cell? ⟨gb215, 0, none⟩ = some (.int .i64 a1_0) ∧ w'.cell? ⟨gb215, 1, none⟩ = some (.bool a1_1) ∧ w'.cell? ⟨gb215, 2, none⟩ = some (.int .i64 a1_2) ∧ w'.cell? ⟨gb215, 3, none⟩ = some (.string a1_3) ∧ w'.cell? ⟨gb215, 4, none⟩ = some (.slice (some ad218) l1_4.length c1_4) ∧ w'.cell? ⟨gb215, 5, none⟩ = some (.slice A1_5 l1_5.length c1_5) ∧ w'.cell? (ad217.add ((x7_2).toNat * 6)) = some (.int .i64 ((rd_T25 l0_4 x7_2).f0)) ∧ w'.cell? ⟨(ad217.add ((x7_2).toNat * 6)).block, (ad217.add ((x7_2).toNat * 6)).off + 1, none⟩ = some (.bool ((rd_T25 l0_4 x7_2).f1)) ∧ w'.cell? ⟨(ad217.add ((x7_2).toNat * 6)).block, (ad217.add ((x7_2).toNat * 6)).off + 2, none⟩ = some (.int .i64 ((rd_T25 l0_4 x7_2).f2)) ∧ w'.cell? ⟨(ad217.add ((x7_2).toNat * 6)).block, (ad217.add ((x7_2).toNat * 6)).off + 3, none⟩ = some (.string ((rd_T25 l0_4 x7_2).f3)) ∧ w'.cell? ⟨(ad217.add ((x7_2).toNat * 6)).block, (ad217.add ((x7_2).toNat * 6)).off + 4, none⟩ = some (.slice A217_4 ((rd_T25 l0_4 x7_2).f4).length c217_4) ∧ w'.cell? ⟨(ad217.add ((x7_2).toNat * 6)).block, (ad217.add ((x7_2).toNat * 6)).off + 5, none⟩ = some (.slice A217_5 ((rd_T25 l0_4 x7_2).f5).length c217_5) ∧ w'.cell? (ad218.add ((x7_2).toNat * 6)) = some (.int .i64 ((rd_T25 l1_4 x7_2).f0)) ∧ w'.cell? ⟨(ad218.add ((x7_2).toNat * 6)).block, (ad218.add ((x7_2).toNat * 6)).off + 1, none⟩ = some (.bool ((rd_T25 l1_4 x7_2).f1)) ∧ w'.cell? ⟨(ad218.add ((x7_2).toNat * 6)).block, (ad218.add ((x7_2).toNat * 6)).off + 2, none⟩ = some (.int .i64 ((rd_T25 l1_4 x7_2).f2)) ∧ w'.cell? ⟨(ad218.add ((x7_2).toNat * 6)).block, (ad218.add ((x7_2).toNat * 6)).off + 3, none⟩ = some (.string ((rd_T25 l1_4 x7_2).f3)) ∧ w'.cell? ⟨(ad218.add ((x7_2).toNat * 6)).block, (ad218.add ((x7_2).toNat * 6)).off + 4, none⟩ = some (.slice A218_4 ((rd_T25 l1_4 x7_2).f4).length c218_4) ∧ w'.cell? ⟨(ad218.add ((x7_2).toNat * 6)).block, (ad218.add ((x7_2).toNat * 6)).off + 5, none⟩ = some (.slice A218_5 ((rd_T25 l1_4 x7_2).f5).length c218_5)) (ds := []) #[false, false, false, false, false, false, false, false, false, false, false, false, false, false] (by kernel_rfl) rfl rfl ⟨(qAc BK214.out 0).trans rfl, (qAc BK214.out 1).trans rfl, (qAc BK214.out 2).trans rfl, (qAc BK214.out 3).trans rfl, (qAc BK214.out 4).trans rfl, (qAc BK214.out 5).trans rfl, (qAc BK215.out 0).trans rfl, (qAc BK215.out 1).trans rfl, (qAc BK215.out 2).trans rfl, (qAc BK215.out 3).trans rfl, (qAc BK215.out 4).trans rfl, (qAc BK215.out 5).trans rfl, ((HB.out.cell (World.block_lt_of_cell? w _ hw217_0)).trans hw217_0), ((HB.out.cell (World.block_lt_of_cell? w _ hw217_1)).trans hw217_1), ((HB.out.cell (World.block_lt_of_cell? w _ hw217_2)).trans hw217_2), ((HB.out.cell (World.block_lt_of_cell? w _ hw217_3)).trans hw217_3), ((HB.out.cell (World.block_lt_of_cell? w _ hw217_4)).trans hw217_4), ((HB.out.cell (World.block_lt_of_cell? w _ hw217_5)).trans hw217_5), ((HB.out.cell (World.block_lt_of_cell? w _ hw218_0)).trans hw218_0), ((HB.out.cell (World.block_lt_of_cell? w _ hw218_1)).trans hw218_1), ((HB.out.cell (World.block_lt_of_cell? w _ hw218_2)).trans hw218_2), ((HB.out.cell (World.block_lt_of_cell? w _ hw218_3)).trans hw218_3), ((HB.out.cell (World.block_lt_of_cell? w _ hw218_4)).trans hw218_4), ((HB.out.cell (World.block_lt_of_cell? w _ hw218_5)).trans hw218_5)⟩ (fun hHeld => ?_); refine qB4 hogsheadlaw0_SameValue.tab6 hogsheadlaw0_SameValue.bits6 (fun HT_ HW_ => ?_)
          generalize wr.drew = w43 at BK214 BK215 HB HR217_4 HR217_5 HR218_4 HR218_5 hx217_0 hx217_1 hx217_2 hx217_3 hx217_4 hx217_5 hx218_0 hx218_1 hx218_2 hx218_3 hx218_4 hx218_5 hHeld ⊢
          refine pure_ (i := 0) (N := some 62) (v := ?_) (a' := ?_) #[true, false, false, false, false, false, false, false, false, false, false, false, false, false] rfl rfl (any_of HT_.out (by kernel_rfl)) (fun _ _ _ h => h) (Or.inl ⟨by rfl, ?_⟩) ?_ ?_
          rotate_left
          ·intro w'
           go_simp
           with_reducible rfl
          rotate_left
          ·simp only [Act.put, List.setIfInBounds_toArray, List.set_cons_zero, List.set_cons_succ, i64_w, i32_w]
           rfl
          refine pure_ (i := 2) (N := some 64) (v := ?_) (a' := ?_) #[true, false, true, false, false, false, false, false, false, false, false, false, false, false] rfl rfl (any_of HT_.out (by kernel_rfl)) (fun _ _ _ h => h) (Or.inl ⟨by rfl, ?_⟩) ?_ ?_
          rotate_left
          ·intro w'
           go_simp
           with_reducible rfl
          rotate_left
          ·simp only [Act.put, List.setIfInBounds_toArray, List.set_cons_zero, List.set_cons_succ, i64_w, i32_w]
           rfl
          refine pure_ (i := 5) (N := some 67) (v := ?_) (a' := ?_) #[true, false, true, false, false, true, false, false, false, false, false, false, false, false] rfl rfl (any_of HT_.out (by kernel_rfl)) (fun _ _ _ h => h) (Or.inl ⟨by rfl, ?_⟩) ?_ ?_
          rotate_left
          ·intro w'
           go_simp
           with_reducible rfl
          rotate_left
          ·simp only [Act.put, List.setIfInBounds_toArray, List.set_cons_zero, List.set_cons_succ, i64_w, i32_w]
           rfl
          refine pure_ (i := 7) (N := some 69) (v := ?_) (a' := ?_) #[true, false, true, false, false, true, false, true, false, false, false, false, false, false] rfl rfl (any_of HT_.out (by kernel_rfl)) (fun _ _ _ h => h) (Or.inl ⟨by rfl, ?_⟩) ?_ ?_
          rotate_left
          ·intro w'
           go_simp
           with_reducible rfl
          rotate_left
          ·simp only [Act.put, List.setIfInBounds_toArray, List.set_cons_zero, List.set_cons_succ, i64_w, i32_w]
           rfl
          refine pure_ (i := 10) (N := some 72) (v := ?_) (a' := ?_) #[true, false, true, false, false, true, false, true, false, false, true, false, false, false] rfl rfl (any_of HT_.out (by kernel_rfl)) (fun _ _ _ h => h) (Or.inl ⟨by rfl, ?_⟩) ?_ ?_
          rotate_left
          ·intro w'
           go_simp
           with_reducible rfl
          rotate_left
          ·simp only [Act.put, List.setIfInBounds_toArray, List.set_cons_zero, List.set_cons_succ, i64_w, i32_w]
           rfl
          refine pure_ (i := 11) (N := some 73) (v := ?_) (a' := ?_) #[true, false, true, false, false, true, false, true, false, false, true, true, false, false] rfl rfl (any_of HT_.out (by kernel_rfl)) (fun _ _ _ h => h) (Or.inl ⟨by rfl, ?_⟩) ?_ ?_
          rotate_left
          ·intro w'
           go_simp
           with_reducible rfl
          rotate_left
          ·simp only [Act.put, List.setIfInBounds_toArray, List.set_cons_zero, List.set_cons_succ, i64_w, i32_w]
           rfl
          refine take_ (i := 1) (N := some 63) (v := ?_) (a' := ?_) #[true, true, true, false, false, true, false, true, false, false, true, true, false, false] rfl rfl (qBb HT_.out HW_.out (by kernel_rfl)) (fun _ _ _ h => h) (Or.inl ⟨by rfl, ?_⟩) hHeld ?_ ?_
          rotate_left
          ·rintro w' ⟨s0, s1, s2, s3, s4, s5, s6, s7, s8, s9, s10, s11, s12, s13, s14, s15, s16, s17, s18, s19, s20, s21, s22, s23⟩
           go_simp
           with_reducible rfl
          rotate_left
          ·simp only [Act.put, List.setIfInBounds_toArray, List.set_cons_zero, List.set_cons_succ, i64_w, i32_w]
           rfl
          refine pure_ (i := 3) (N := some 65) (v := ?_) (a' := ?_) #[true, true, true, true, false, true, false, true, false, false, true, true, false, false] rfl rfl (any_of HT_.out (by kernel_rfl)) (fun _ _ _ h => h) (Or.inl ⟨by rfl, ?_⟩) ?_ ?_
          rotate_left
          ·intro w'
           go_simp
           with_reducible rfl
          rotate_left
          ·simp only [Act.put, List.setIfInBounds_toArray, List.set_cons_zero, List.set_cons_succ, i64_w, i32_w]
           rfl
          refine take_ (i := 4) (N := some 66) (v := ?_) (a' := ?_) #[true, true, true, true, true, true, false, true, false, false, true, true, false, false] rfl rfl (qBb HT_.out HW_.out (by kernel_rfl)) (fun _ _ _ h => h) (Or.inl ⟨by rfl, ?_⟩) hHeld ?_ ?_
          rotate_left
          ·rintro w' ⟨s0, s1, s2, s3, s4, s5, s6, s7, s8, s9, s10, s11, s12, s13, s14, s15, s16, s17, s18, s19, s20, s21, s22, s23⟩
           go_simp
           with_reducible rfl
          rotate_left
          ·simp only [Act.put, List.setIfInBounds_toArray, List.set_cons_zero, List.set_cons_succ, i64_w, i32_w]
           rfl
          refine take_ (i := 6) (N := some 68) (v := ?_) (a' := ?_) #[true, true, true, true, true, true, true, true, false, false, true, true, false, false] rfl rfl (qBb HT_.out HW_.out (by kernel_rfl)) (fun _ _ _ h => h) (Or.inl ⟨by rfl, ?_⟩) hHeld ?_ ?_
          rotate_left
          ·rintro w' ⟨s0, s1, s2, s3, s4, s5, s6, s7, s8, s9, s10, s11, s12, s13, s14, s15, s16, s17, s18, s19, s20, s21, s22, s23⟩
           go_simp
           with_reducible rfl
          rotate_left
          ·simp only [Act.put, List.setIfInBounds_toArray, List.set_cons_zero, List.set_cons_succ, i64_w, i32_w]
           rfl
          refine pure_ (i := 8) (N := some 70) (v := ?_) (a' := ?_) #[true, true, true, true, true, true, true, true, true, false, true, true, false, false] rfl rfl (any_of HT_.out (by kernel_rfl)) (fun _ _ _ h => h) (Or.inl ⟨by rfl, ?_⟩) ?_ ?_
          rotate_left
          ·intro w'
           go_simp
           with_reducible rfl
          rotate_left
          ·simp only [Act.put, List.setIfInBounds_toArray, List.set_cons_zero, List.set_cons_succ, i64_w, i32_w]
           rfl
          refine take_ (i := 9) (N := some 71) (v := ?_) (a' := ?_) #[true, true, true, true, true, true, true, true, true, true, true, true, false, false] rfl rfl (qBb HT_.out HW_.out (by kernel_rfl)) (fun _ _ _ h => h) (Or.inl ⟨by rfl, ?_⟩) hHeld ?_ ?_
          rotate_left
          ·rintro w' ⟨s0, s1, s2, s3, s4, s5, s6, s7, s8, s9, s10, s11, s12, s13, s14, s15, s16, s17, s18, s19, s20, s21, s22, s23⟩
           go_simp
           with_reducible rfl
          rotate_left
          ·simp only [Act.put, List.setIfInBounds_toArray, List.set_cons_zero, List.set_cons_succ, i64_w, i32_w]
           rfl
          refine one_ (i := 12) (N := some 74) #[true, true, true, true, true, true, true, true, true, true, true, true, true, false] rfl rfl (one_of HT_.out (by kernel_rfl)) (by decide) (fun K hK => ?_)
          refine goes_ Tryd.func25 (by kernel_rfl) rfl #[.agg #[.int .i64 ((rd_T25 l0_4 x7_2).f0), .bool ((rd_T25 l0_4 x7_2).f1), .int .i64 ((rd_T25 l0_4 x7_2).f2), .string ((rd_T25 l0_4 x7_2).f3), .slice A217_4 ((rd_T25 l0_4 x7_2).f4).length c217_4, .slice A217_5 ((rd_T25 l0_4 x7_2).f5).length c217_5], .agg #[.int .i64 ((rd_T25 l1_4 x7_2).f0), .bool ((rd_T25 l1_4 x7_2).f1), .int .i64 ((rd_T25 l1_4 x7_2).f2), .string ((rd_T25 l1_4 x7_2).f3), .slice A218_4 ((rd_T25 l1_4 x7_2).f4).length c218_4, .slice A218_5 ((rd_T25 l1_4 x7_2).f5).length c218_5], .int .i64 (wrap64 (a2 - 1))] (by rfl) rfl rfl (by (try simp only [List.map_toArray, List.map_cons, List.map_nil]); first | done | rfl | (simp only [List.length_drop, List.length_take]; rfl)) ?_
          with_reducible refine (ih k2 (by have := HJ3.out; have := HK2.out; omega) ((rd_T25 l0_4 x7_2).f0) ((rd_T25 l0_4 x7_2).f1) ((rd_T25 l0_4 x7_2).f2) ((rd_T25 l0_4 x7_2).f3) _ _ ((rd_T25 l0_4 x7_2).f4) _ _ ((rd_T25 l0_4 x7_2).f5) ((rd_T25 l1_4 x7_2).f0) ((rd_T25 l1_4 x7_2).f1) ((rd_T25 l1_4 x7_2).f2) ((rd_T25 l1_4 x7_2).f3) _ _ ((rd_T25 l1_4 x7_2).f4) _ _ ((rd_T25 l1_4 x7_2).f5) (wrap64 (a2 - 1)) true _ ?side1 ?side2 ?side3 ?side4 ?side5 ?side6 ?side7 ?side8 A39.out).mono ?_
          (case side1 => repeat (first | exact (Kd.C_below HR217_4.out HB.out) | (with_reducible refine Kd.C_alloc ?_ _) | (with_reducible refine Kd.C_drewN ?_ _) | (with_reducible refine Kd.C_drew ?_)))
          (case side2 => exact HC217_4.out)
          (case side3 => repeat (first | exact (Kd.C_below HR217_5.out HB.out) | (with_reducible refine Kd.C_alloc ?_ _) | (with_reducible refine Kd.C_drewN ?_ _) | (with_reducible refine Kd.C_drew ?_)))
          (case side4 => exact HC217_5.out)
          (case side5 => repeat (first | exact (Kd.C_below HR218_4.out HB.out) | (with_reducible refine Kd.C_alloc ?_ _) | (with_reducible refine Kd.C_drewN ?_ _) | (with_reducible refine Kd.C_drew ?_)))
          (case side6 => exact HC218_4.out)
          (case side7 => repeat (first | exact (Kd.C_below HR218_5.out HB.out) | (with_reducible refine Kd.C_alloc ?_ _) | (with_reducible refine Kd.C_drewN ?_ _) | (with_reducible refine Kd.C_drew ?_)))
          (case side8 => exact HC218_5.out)
          rintro e w44 ⟨rfl, hb⟩
          refine ⟨_, rfl, ?_⟩
          have n0_ := Aside0.mk (qAk (g := gb214) (o := .cells #[.int .i64 a0_0, .bool a0_1, .int .i64 a0_2, .string a0_3, .slice (some ad217) l0_4.length c0_4, .slice A0_5 l0_5.length c0_5] 25 (0, 0)) (by (with_reducible repeat (first | refine qAf ?_ _ | refine qAh ?_ | refine blk_alloc ?_ _)); exact BK214.out) hb)
          have n1_ := Aside0.mk (qAk (g := gb215) (o := .cells #[.int .i64 a1_0, .bool a1_1, .int .i64 a1_2, .string a1_3, .slice (some ad218) l1_4.length c1_4, .slice A1_5 l1_5.length c1_5] 25 (0, 0)) (by (with_reducible repeat (first | refine qAf ?_ _ | refine qAh ?_ | refine blk_alloc ?_ _)); exact BK215.out) hb)
          have n2_ := Aside0.mk (qAi (by repeat (first | (with_reducible first | exact HB.out | apply qAd | apply qAb | apply qAe | refine qAg ?_ GE214.out | refine qAg ?_ GE215.out) | exact HB.out)) hb)
          clear BK214
          clear BK215
          clear HB
          have BK214 := n0_
          have BK215 := n1_
          have HB := n2_
          clear n0_ n1_ n2_
          (try clear hb)
          (try clear hb2)
          (try clear hk)
          (try clear hi)
          refine hK.out _ _ ⟨(qAc BK214.out 0).trans rfl, (qAc BK214.out 1).trans rfl, (qAc BK214.out 2).trans rfl, (qAc BK214.out 3).trans rfl, (qAc BK214.out 4).trans rfl, (qAc BK214.out 5).trans rfl, (qAc BK215.out 0).trans rfl, (qAc BK215.out 1).trans rfl, (qAc BK215.out 2).trans rfl, (qAc BK215.out 3).trans rfl, (qAc BK215.out 4).trans rfl, (qAc BK215.out 5).trans rfl, ((HB.out.cell (World.block_lt_of_cell? w _ hw217_0)).trans hw217_0), ((HB.out.cell (World.block_lt_of_cell? w _ hw217_1)).trans hw217_1), ((HB.out.cell (World.block_lt_of_cell? w _ hw217_2)).trans hw217_2), ((HB.out.cell (World.block_lt_of_cell? w _ hw217_3)).trans hw217_3), ((HB.out.cell (World.block_lt_of_cell? w _ hw217_4)).trans hw217_4), ((HB.out.cell (World.block_lt_of_cell? w _ hw217_5)).trans hw217_5), ((HB.out.cell (World.block_lt_of_cell? w _ hw218_0)).trans hw218_0), ((HB.out.cell (World.block_lt_of_cell? w _ hw218_1)).trans hw218_1), ((HB.out.cell (World.block_lt_of_cell? w _ hw218_2)).trans hw218_2), ((HB.out.cell (World.block_lt_of_cell? w _ hw218_3)).trans hw218_3), ((HB.out.cell (World.block_lt_of_cell? w _ hw218_4)).trans hw218_4), ((HB.out.cell (World.block_lt_of_cell? w _ hw218_5)).trans hw218_5)⟩ (fun hHeld => ?_)
          clear hK K
          refine norm_ (a' := ?_) ?_ ?_
          rotate_left
          ·show Act.put _ (some 74) _ = _
           simp only [Act.put, List.setIfInBounds_toArray, List.set_cons_zero, List.set_cons_succ, i64_w, i32_w]
           rfl
          refine pure_ (i := 13) (N := some 75) (v := ?_) (a' := ?_) #[true, true, true, true, true, true, true, true, true, true, true, true, true, true] rfl rfl (any_of HT_.out (by kernel_rfl)) (fun _ _ _ h => h) (Or.inl ⟨by rfl, ?_⟩) ?_ ?_
          rotate_left
          ·intro w'
           go_simp
           with_reducible rfl
          rotate_left
          ·simp only [Act.put, List.setIfInBounds_toArray, List.set_cons_zero, List.set_cons_succ, i64_w, i32_w]
           rfl
          refine done_ (qDn HT_.out (by kernel_rfl)) ?_
          try go_wp2
          go_roundg k2
          case measure => have := HJ3.out; have := HK2.out; omega
          case rel => exact ⟨(wrap64 (x7_2 + 1)), (by first | rfl | (simp; done) | (simp [*]; done) | exact congrArg Value.bool (nil_ne _) | exact congrArg Value.bool (nil_eq _) | exact congrArg Value.bool (nil_ne' _)), H', ⟨by have := HJ3.out; have := HK2.out; omega⟩, ⟨by (with_reducible repeat (first | refine qAf ?_ _ | refine qAh ?_ | refine blk_alloc ?_ _)); exact BK214.out⟩, ⟨by (with_reducible repeat (first | refine qAf ?_ _ | refine qAh ?_ | refine blk_alloc ?_ _)); exact BK215.out⟩, ⟨by repeat (first | (with_reducible first | exact HB.out | apply qAd | apply qAb | apply qAe | refine qAg ?_ GE214.out | refine qAg ?_ GE215.out) | exact HB.out)⟩⟩
         ·replace c40 := Bool.eq_false_iff.mpr c40
          subst c40
          have H1 : (some false) = some r := by rw [if_neg (show ¬ (false = true) by decide)] at H; exact H
          clear H
          have H := H1
          clear H1
          obtain rfl := Option.some.inj H
          have hnb45 := NB214_215.out
          have hnc45 := NB215_214.out
          have hcz46_0 : wr.cell? ⟨gb214, 0, none⟩ = some (.int .i64 a0_0) := (qAc BK214.out 0).trans rfl
          have hcz46_1 : wr.cell? ⟨gb214, 1, none⟩ = some (.bool a0_1) := (qAc BK214.out 1).trans rfl
          have hcz46_2 : wr.cell? ⟨gb214, 2, none⟩ = some (.int .i64 a0_2) := (qAc BK214.out 2).trans rfl
          have hcz46_3 : wr.cell? ⟨gb214, 3, none⟩ = some (.string a0_3) := (qAc BK214.out 3).trans rfl
          have hcz46_4 : wr.cell? ⟨gb214, 4, none⟩ = some (.slice A0_4 l0_4.length c0_4) := (qAc BK214.out 4).trans rfl
          have hcz46_5 : wr.cell? ⟨gb214, 5, none⟩ = some (.slice A0_5 l0_5.length c0_5) := (qAc BK214.out 5).trans rfl
          have hfz46_0 := qAa BK214.out 0
          have hfz46_1 := qAa BK214.out 1
          have hfz46_2 := qAa BK214.out 2
          have hfz46_3 := qAa BK214.out 3
          have hfz46_4 := qAa BK214.out 4
          have hfz46_5 := qAa BK214.out 5
          try go_wp2
          have n0_ := Aside0.mk (qAh BK214.out)
          have n1_ := Aside0.mk (qAh BK215.out)
          have n2_ := Aside0.mk (qAe HB.out)
          clear BK214
          clear BK215
          clear HB
          have BK214 := n0_
          have BK215 := n1_
          have HB := n2_
          clear n0_ n1_ n2_
          have p217 : 0 ≤ (x7_2 : Int) := of_decide_eq_true (by first | (with_reducible assumption) | assumption)
          have q217 : x7_2 < (l0_4.length : Int) := of_decide_eq_true (by first | (with_reducible assumption) | assumption)
          obtain ⟨ad217, A217_4, c217_4, A217_5, c217_5, e217, hx217_0, hx217_1, hx217_2, hx217_3, hx217_4, hx217_5, hl217_4, hi217_4, hl217_5, hi217_5⟩ := at_T25 HR0_4.out x7_2 p217 q217
          have hw217_5 := hx217_5
          have hw217_4 := hx217_4
          have hw217_3 := hx217_3
          have hw217_2 := hx217_2
          have hw217_1 := hx217_1
          have hw217_0 := hx217_0
          cases e217
          replace hx217_0 := (HB.out.cell (World.block_lt_of_cell? w _ hx217_0)).trans hx217_0
          replace hx217_1 := (HB.out.cell (World.block_lt_of_cell? w _ hx217_1)).trans hx217_1
          replace hx217_2 := (HB.out.cell (World.block_lt_of_cell? w _ hx217_2)).trans hx217_2
          replace hx217_3 := (HB.out.cell (World.block_lt_of_cell? w _ hx217_3)).trans hx217_3
          replace hx217_4 := (HB.out.cell (World.block_lt_of_cell? w _ hx217_4)).trans hx217_4
          replace hx217_5 := (HB.out.cell (World.block_lt_of_cell? w _ hx217_5)).trans hx217_5
          have HR217_4 := Aside0.mk hi217_4
          have HC217_4 := Aside0.mk hl217_4
          clear hi217_4 hl217_4
          have HR217_5 := Aside0.mk hi217_5
          have HC217_5 := Aside0.mk hl217_5
          clear hi217_5 hl217_5
          replace p217 := eq_true p217
          replace q217 := eq_true q217
          have p218 : 0 ≤ (x7_2 : Int) := of_decide_eq_true (by first | (with_reducible assumption) | assumption)
          have q218 : x7_2 < (l1_4.length : Int) := of_decide_eq_true (by first | (with_reducible assumption) | assumption)
          obtain ⟨ad218, A218_4, c218_4, A218_5, c218_5, e218, hx218_0, hx218_1, hx218_2, hx218_3, hx218_4, hx218_5, hl218_4, hi218_4, hl218_5, hi218_5⟩ := at_T25 HR1_4.out x7_2 p218 q218
          have hw218_5 := hx218_5
          have hw218_4 := hx218_4
          have hw218_3 := hx218_3
          have hw218_2 := hx218_2
          have hw218_1 := hx218_1
          have hw218_0 := hx218_0
          cases e218
          replace hx218_0 := (HB.out.cell (World.block_lt_of_cell? w _ hx218_0)).trans hx218_0
          replace hx218_1 := (HB.out.cell (World.block_lt_of_cell? w _ hx218_1)).trans hx218_1
          replace hx218_2 := (HB.out.cell (World.block_lt_of_cell? w _ hx218_2)).trans hx218_2
          replace hx218_3 := (HB.out.cell (World.block_lt_of_cell? w _ hx218_3)).trans hx218_3
          replace hx218_4 := (HB.out.cell (World.block_lt_of_cell? w _ hx218_4)).trans hx218_4
          replace hx218_5 := (HB.out.cell (World.block_lt_of_cell? w _ hx218_5)).trans hx218_5
          have HR218_4 := Aside0.mk hi218_4
          have HC218_4 := Aside0.mk hl218_4
          clear hi218_4 hl218_4
          have HR218_5 := Aside0.mk hi218_5
          have HC218_5 := Aside0.mk hl218_5
          clear hi218_5 hl218_5
          replace p218 := eq_true p218
          replace q218 := eq_true q218
          refine start_ (n := 14) (S := fun w' => w'.cell? ⟨gb214, 0, none⟩ = some (.int .i64 a0_0) ∧ w'.cell? ⟨gb214, 1, none⟩ = some (.bool a0_1) ∧ w'.cell? ⟨gb214, 2, none⟩ = some (.int .i64 a0_2) ∧ w'.cell? ⟨gb214, 3, none⟩ = some (.string a0_3) ∧ w'.cell? ⟨gb214, 4, none⟩ = some (.slice (some ad217) l0_4.length c0_4) ∧ w'.cell? ⟨gb214, 5, none⟩ = some (.slice A0_5 l0_5.length c0_5) ∧ w'.cell? ⟨gb215, 0, none⟩ = some (.int .i64 a1_0) ∧ w'.cell? ⟨gb215, 1, none⟩ = some (.bool a1_1) ∧ w'.cell? ⟨gb215, 2, none⟩ = some (.int .i64 a1_2) ∧ w'.cell? ⟨gb215, 3, none⟩ = some (.string a1_3) ∧ w'.cell? ⟨gb215, 4, none⟩ = some (.slice (some ad218) l1_4.length c1_4) ∧ w'.cell? ⟨gb215, 5, none⟩ = some (.slice A1_5 l1_5.length c1_5) ∧ w'.cell? (ad217.add ((x7_2).toNat * 6)) = some (.int .i64 ((rd_T25 l0_4 x7_2).f0)) ∧ w'.cell? ⟨(ad217.add ((x7_2).toNat * 6)).block, (ad217.add ((x7_2).toNat * 6)).off + 1, none⟩ = some (.bool ((rd_T25 l0_4 x7_2).f1)) ∧ w'.cell? ⟨(ad217.add ((x7_2).toNat * 6)).block, (ad217.add ((x7_2).toNat * 6)).off + 2, none⟩ = some (.int .i64 ((rd_T25 l0_4 x7_2).f2)) ∧ w'.cell? ⟨(ad217.add ((x7_2).toNat * 6)).block, (ad217.add ((x7_2).toNat * 6)).off + 3, none⟩ = some (.string ((rd_T25 l0_4 x7_2).f3)) ∧ w'.cell? ⟨(ad217.add ((x7_2).toNat * 6)).block, (ad217.add ((x7_2).toNat * 6)).off + 4, none⟩ = some (.slice A217_4 ((rd_T25 l0_4 x7_2).f4).length c217_4) ∧ w'.cell? ⟨(ad217.add ((x7_2).toNat * 6)).block, (ad217.add ((x7_2).toNat * 6)).off + 5, none⟩ = some (.slice A217_5 ((rd_T25 l0_4 x7_2).f5).length c217_5) ∧ w'.cell? (ad218.add ((x7_2).toNat * 6)) = some (.int .i64 ((rd_T25 l1_4 x7_2).f0)) ∧ w'.cell? ⟨(ad218.add ((x7_2).toNat * 6)).block, (ad218.add ((x7_2).toNat * 6)).off + 1, none⟩ = some (.bool ((rd_T25 l1_4 x7_2).f1)) ∧ w'.cell? ⟨(ad218.add ((x7_2).toNat * 6)).block, (ad218.add ((x7_2).toNat * 6)).off + 2, none⟩ = some (.int .i64 ((rd_T25 l1_4 x7_2).f2)) ∧ w'.cell? ⟨(ad218.add ((x7_2).toNat * 6)).block, (ad218.add ((x7_2).toNat * 6)).off + 3, none⟩ = some (.string ((rd_T25 l1_4 x7_2).f3)) ∧ w'.cell? ⟨(ad218.add ((x7_2).toNat * 6)).block, (ad218.add ((x7_2).toNat * 6)).off + 4, none⟩ = some (.slice A218_4 ((rd_T25 l1_4 x7_2).f4).length c218_4) ∧ w'.cell? ⟨(ad218.add ((x7_2).toNat * 6)).block, (ad218.add ((x7_2).toNat * 6)).off + 5, none⟩ = some (.slice A218_5 ((rd_T25 l1_4 x7_2).f5).length c218_5)) (ds := []) #[false, false, false, false, false, false, false, false, false, false, false, false, false, false] (by kernel_rfl) rfl rfl ⟨(qAc BK214.out 0).trans rfl, (qAc BK214.out 1).trans rfl, (qAc BK214.out 2).trans rfl, (qAc BK214.out 3).trans rfl, (qAc BK214.out 4).trans rfl, (qAc BK214.out 5).trans rfl, (qAc BK215.out 0).trans rfl, (qAc BK215.out 1).trans rfl, (qAc BK215.out 2).trans rfl, (qAc BK215.out 3).trans rfl, (qAc BK215.out 4).trans rfl, (qAc BK215.out 5).trans rfl, ((HB.out.cell (World.block_lt_of_cell? w _ hw217_0)).trans hw217_0), ((HB.out.cell (World.block_lt_of_cell? w _ hw217_1)).trans hw217_1), ((HB.out.cell (World.block_lt_of_cell? w _ hw217_2)).trans hw217_2), ((HB.out.cell (World.block_lt_of_cell? w _ hw217_3)).trans hw217_3), ((HB.out.cell (World.block_lt_of_cell? w _ hw217_4)).trans hw217_4), ((HB.out.cell (World.block_lt_of_cell? w _ hw217_5)).trans hw217_5), ((HB.out.cell (World.block_lt_of_cell? w _ hw218_0)).trans hw218_0), ((HB.out.cell (World.block_lt_of_cell? w _ hw218_1)).trans hw218_1), ((HB.out.cell (World.block_lt_of_cell? w _ hw218_2)).trans hw218_2), ((HB.out.cell (World.block_lt_of_cell? w _ hw218_3)).trans hw218_3), ((HB.out.cell (World.block_lt_of_cell? w _ hw218_4)).trans hw218_4), ((HB.out.cell (World.block_lt_of_cell? w _ hw218_5)).trans hw218_5)⟩ (fun hHeld => ?_); refine qB4 hogsheadlaw0_SameValue.tab6 hogsheadlaw0_SameValue.bits6 (fun HT_ HW_ => ?_)
          generalize wr.drew = w47 at BK214 BK215 HB HR217_4 HR217_5 HR218_4 HR218_5 hx217_0 hx217_1 hx217_2 hx217_3 hx217_4 hx217_5 hx218_0 hx218_1 hx218_2 hx218_3 hx218_4 hx218_5 hHeld ⊢
          refine pure_ (i := 0) (N := some 62) (v := ?_) (a' := ?_) #[true, false, false, false, false, false, false, false, false, false, false, false, false, false] rfl rfl (any_of HT_.out (by kernel_rfl)) (fun _ _ _ h => h) (Or.inl ⟨by rfl, ?_⟩) ?_ ?_
          rotate_left
          ·intro w'
           go_simp
           with_reducible rfl
          rotate_left
          ·simp only [Act.put, List.setIfInBounds_toArray, List.set_cons_zero, List.set_cons_succ, i64_w, i32_w]
           rfl
          refine pure_ (i := 2) (N := some 64) (v := ?_) (a' := ?_) #[true, false, true, false, false, false, false, false, false, false, false, false, false, false] rfl rfl (any_of HT_.out (by kernel_rfl)) (fun _ _ _ h => h) (Or.inl ⟨by rfl, ?_⟩) ?_ ?_
          rotate_left
          ·intro w'
           go_simp
           with_reducible rfl
          rotate_left
          ·simp only [Act.put, List.setIfInBounds_toArray, List.set_cons_zero, List.set_cons_succ, i64_w, i32_w]
           rfl
          refine pure_ (i := 5) (N := some 67) (v := ?_) (a' := ?_) #[true, false, true, false, false, true, false, false, false, false, false, false, false, false] rfl rfl (any_of HT_.out (by kernel_rfl)) (fun _ _ _ h => h) (Or.inl ⟨by rfl, ?_⟩) ?_ ?_
          rotate_left
          ·intro w'
           go_simp
           with_reducible rfl
          rotate_left
          ·simp only [Act.put, List.setIfInBounds_toArray, List.set_cons_zero, List.set_cons_succ, i64_w, i32_w]
           rfl
          refine pure_ (i := 7) (N := some 69) (v := ?_) (a' := ?_) #[true, false, true, false, false, true, false, true, false, false, false, false, false, false] rfl rfl (any_of HT_.out (by kernel_rfl)) (fun _ _ _ h => h) (Or.inl ⟨by rfl, ?_⟩) ?_ ?_
          rotate_left
          ·intro w'
           go_simp
           with_reducible rfl
          rotate_left
          ·simp only [Act.put, List.setIfInBounds_toArray, List.set_cons_zero, List.set_cons_succ, i64_w, i32_w]
           rfl
          refine pure_ (i := 10) (N := some 72) (v := ?_) (a' := ?_) #[true, false, true, false, false, true, false, true, false, false, true, false, false, false] rfl rfl (any_of HT_.out (by kernel_rfl)) (fun _ _ _ h => h) (Or.inl ⟨by rfl, ?_⟩) ?_ ?_
          rotate_left
          ·intro w'
           go_simp
           with_reducible rfl
          rotate_left
          ·simp only [Act.put, List.setIfInBounds_toArray, List.set_cons_zero, List.set_cons_succ, i64_w, i32_w]
           rfl
          refine pure_ (i := 11) (N := some 73) (v := ?_) (a' := ?_) #[true, false, true, false, false, true, false, true, false, false, true, true, false, false] rfl rfl (any_of HT_.out (by kernel_rfl)) (fun _ _ _ h => h) (Or.inl ⟨by rfl, ?_⟩) ?_ ?_
          rotate_left
          ·intro w'
           go_simp
           with_reducible rfl
          rotate_left
          ·simp only [Act.put, List.setIfInBounds_toArray, List.set_cons_zero, List.set_cons_succ, i64_w, i32_w]
           rfl
          refine take_ (i := 1) (N := some 63) (v := ?_) (a' := ?_) #[true, true, true, false, false, true, false, true, false, false, true, true, false, false] rfl rfl (qBb HT_.out HW_.out (by kernel_rfl)) (fun _ _ _ h => h) (Or.inl ⟨by rfl, ?_⟩) hHeld ?_ ?_
          rotate_left
          ·rintro w' ⟨s0, s1, s2, s3, s4, s5, s6, s7, s8, s9, s10, s11, s12, s13, s14, s15, s16, s17, s18, s19, s20, s21, s22, s23⟩
           go_simp
           with_reducible rfl
          rotate_left
          ·simp only [Act.put, List.setIfInBounds_toArray, List.set_cons_zero, List.set_cons_succ, i64_w, i32_w]
           rfl
          refine pure_ (i := 3) (N := some 65) (v := ?_) (a' := ?_) #[true, true, true, true, false, true, false, true, false, false, true, true, false, false] rfl rfl (any_of HT_.out (by kernel_rfl)) (fun _ _ _ h => h) (Or.inl ⟨by rfl, ?_⟩) ?_ ?_
          rotate_left
          ·intro w'
           go_simp
           with_reducible rfl
          rotate_left
          ·simp only [Act.put, List.setIfInBounds_toArray, List.set_cons_zero, List.set_cons_succ, i64_w, i32_w]
           rfl
          refine take_ (i := 4) (N := some 66) (v := ?_) (a' := ?_) #[true, true, true, true, true, true, false, true, false, false, true, true, false, false] rfl rfl (qBb HT_.out HW_.out (by kernel_rfl)) (fun _ _ _ h => h) (Or.inl ⟨by rfl, ?_⟩) hHeld ?_ ?_
          rotate_left
          ·rintro w' ⟨s0, s1, s2, s3, s4, s5, s6, s7, s8, s9, s10, s11, s12, s13, s14, s15, s16, s17, s18, s19, s20, s21, s22, s23⟩
           go_simp
           with_reducible rfl
          rotate_left
          ·simp only [Act.put, List.setIfInBounds_toArray, List.set_cons_zero, List.set_cons_succ, i64_w, i32_w]
           rfl
          refine take_ (i := 6) (N := some 68) (v := ?_) (a' := ?_) #[true, true, true, true, true, true, true, true, false, false, true, true, false, false] rfl rfl (qBb HT_.out HW_.out (by kernel_rfl)) (fun _ _ _ h => h) (Or.inl ⟨by rfl, ?_⟩) hHeld ?_ ?_
          rotate_left
          ·rintro w' ⟨s0, s1, s2, s3, s4, s5, s6, s7, s8, s9, s10, s11, s12, s13, s14, s15, s16, s17, s18, s19, s20, s21, s22, s23⟩
           go_simp
           with_reducible rfl
          rotate_left
          ·simp only [Act.put, List.setIfInBounds_toArray, List.set_cons_zero, List.set_cons_succ, i64_w, i32_w]
           rfl
          refine pure_ (i := 8) (N := some 70) (v := ?_) (a' := ?_) #[true, true, true, true, true, true, true, true, true, false, true, true, false, false] rfl rfl (any_of HT_.out (by kernel_rfl)) (fun _ _ _ h => h) (Or.inl ⟨by rfl, ?_⟩) ?_ ?_
          rotate_left
          ·intro w'
           go_simp
           with_reducible rfl
          rotate_left
          ·simp only [Act.put, List.setIfInBounds_toArray, List.set_cons_zero, List.set_cons_succ, i64_w, i32_w]
           rfl
          refine take_ (i := 9) (N := some 71) (v := ?_) (a' := ?_) #[true, true, true, true, true, true, true, true, true, true, true, true, false, false] rfl rfl (qBb HT_.out HW_.out (by kernel_rfl)) (fun _ _ _ h => h) (Or.inl ⟨by rfl, ?_⟩) hHeld ?_ ?_
          rotate_left
          ·rintro w' ⟨s0, s1, s2, s3, s4, s5, s6, s7, s8, s9, s10, s11, s12, s13, s14, s15, s16, s17, s18, s19, s20, s21, s22, s23⟩
           go_simp
           with_reducible rfl
          rotate_left
          ·simp only [Act.put, List.setIfInBounds_toArray, List.set_cons_zero, List.set_cons_succ, i64_w, i32_w]
           rfl
          refine one_ (i := 12) (N := some 74) #[true, true, true, true, true, true, true, true, true, true, true, true, true, false] rfl rfl (one_of HT_.out (by kernel_rfl)) (by decide) (fun K hK => ?_)
          refine goes_ Tryd.func25 (by kernel_rfl) rfl #[.agg #[.int .i64 ((rd_T25 l0_4 x7_2).f0), .bool ((rd_T25 l0_4 x7_2).f1), .int .i64 ((rd_T25 l0_4 x7_2).f2), .string ((rd_T25 l0_4 x7_2).f3), .slice A217_4 ((rd_T25 l0_4 x7_2).f4).length c217_4, .slice A217_5 ((rd_T25 l0_4 x7_2).f5).length c217_5], .agg #[.int .i64 ((rd_T25 l1_4 x7_2).f0), .bool ((rd_T25 l1_4 x7_2).f1), .int .i64 ((rd_T25 l1_4 x7_2).f2), .string ((rd_T25 l1_4 x7_2).f3), .slice A218_4 ((rd_T25 l1_4 x7_2).f4).length c218_4, .slice A218_5 ((rd_T25 l1_4 x7_2).f5).length c218_5], .int .i64 (wrap64 (a2 - 1))] (by rfl) rfl rfl (by (try simp only [List.map_toArray, List.map_cons, List.map_nil]); first | done | rfl | (simp only [List.length_drop, List.length_take]; rfl)) ?_
          with_reducible refine (ih k2 (by have := HJ3.out; have := HK2.out; omega) ((rd_T25 l0_4 x7_2).f0) ((rd_T25 l0_4 x7_2).f1) ((rd_T25 l0_4 x7_2).f2) ((rd_T25 l0_4 x7_2).f3) _ _ ((rd_T25 l0_4 x7_2).f4) _ _ ((rd_T25 l0_4 x7_2).f5) ((rd_T25 l1_4 x7_2).f0) ((rd_T25 l1_4 x7_2).f1) ((rd_T25 l1_4 x7_2).f2) ((rd_T25 l1_4 x7_2).f3) _ _ ((rd_T25 l1_4 x7_2).f4) _ _ ((rd_T25 l1_4 x7_2).f5) (wrap64 (a2 - 1)) false _ ?side1 ?side2 ?side3 ?side4 ?side5 ?side6 ?side7 ?side8 A39.out).mono ?_
          (case side1 => repeat (first | exact (Kd.C_below HR217_4.out HB.out) | (with_reducible refine Kd.C_alloc ?_ _) | (with_reducible refine Kd.C_drewN ?_ _) | (with_reducible refine Kd.C_drew ?_)))
          (case side2 => exact HC217_4.out)
          (case side3 => repeat (first | exact (Kd.C_below HR217_5.out HB.out) | (with_reducible refine Kd.C_alloc ?_ _) | (with_reducible refine Kd.C_drewN ?_ _) | (with_reducible refine Kd.C_drew ?_)))
          (case side4 => exact HC217_5.out)
          (case side5 => repeat (first | exact (Kd.C_below HR218_4.out HB.out) | (with_reducible refine Kd.C_alloc ?_ _) | (with_reducible refine Kd.C_drewN ?_ _) | (with_reducible refine Kd.C_drew ?_)))
          (case side6 => exact HC218_4.out)
          (case side7 => repeat (first | exact (Kd.C_below HR218_5.out HB.out) | (with_reducible refine Kd.C_alloc ?_ _) | (with_reducible refine Kd.C_drewN ?_ _) | (with_reducible refine Kd.C_drew ?_)))
          (case side8 => exact HC218_5.out)
          rintro e w48 ⟨rfl, hb⟩
          refine ⟨_, rfl, ?_⟩
          have n0_ := Aside0.mk (qAk (g := gb214) (o := .cells #[.int .i64 a0_0, .bool a0_1, .int .i64 a0_2, .string a0_3, .slice (some ad217) l0_4.length c0_4, .slice A0_5 l0_5.length c0_5] 25 (0, 0)) (by (with_reducible repeat (first | refine qAf ?_ _ | refine qAh ?_ | refine blk_alloc ?_ _)); exact BK214.out) hb)
          have n1_ := Aside0.mk (qAk (g := gb215) (o := .cells #[.int .i64 a1_0, .bool a1_1, .int .i64 a1_2, .string a1_3, .slice (some ad218) l1_4.length c1_4, .slice A1_5 l1_5.length c1_5] 25 (0, 0)) (by (with_reducible repeat (first | refine qAf ?_ _ | refine qAh ?_ | refine blk_alloc ?_ _)); exact BK215.out) hb)
          have n2_ := Aside0.mk (qAi (by repeat (first | (with_reducible first | exact HB.out | apply qAd | apply qAb | apply qAe | refine qAg ?_ GE214.out | refine qAg ?_ GE215.out) | exact HB.out)) hb)
          clear BK214
          clear BK215
          clear HB
          have BK214 := n0_
          have BK215 := n1_
          have HB := n2_
          clear n0_ n1_ n2_
          (try clear hb)
          (try clear hb2)
          (try clear hk)
          (try clear hi)
          refine hK.out _ _ ⟨(qAc BK214.out 0).trans rfl, (qAc BK214.out 1).trans rfl, (qAc BK214.out 2).trans rfl, (qAc BK214.out 3).trans rfl, (qAc BK214.out 4).trans rfl, (qAc BK214.out 5).trans rfl, (qAc BK215.out 0).trans rfl, (qAc BK215.out 1).trans rfl, (qAc BK215.out 2).trans rfl, (qAc BK215.out 3).trans rfl, (qAc BK215.out 4).trans rfl, (qAc BK215.out 5).trans rfl, ((HB.out.cell (World.block_lt_of_cell? w _ hw217_0)).trans hw217_0), ((HB.out.cell (World.block_lt_of_cell? w _ hw217_1)).trans hw217_1), ((HB.out.cell (World.block_lt_of_cell? w _ hw217_2)).trans hw217_2), ((HB.out.cell (World.block_lt_of_cell? w _ hw217_3)).trans hw217_3), ((HB.out.cell (World.block_lt_of_cell? w _ hw217_4)).trans hw217_4), ((HB.out.cell (World.block_lt_of_cell? w _ hw217_5)).trans hw217_5), ((HB.out.cell (World.block_lt_of_cell? w _ hw218_0)).trans hw218_0), ((HB.out.cell (World.block_lt_of_cell? w _ hw218_1)).trans hw218_1), ((HB.out.cell (World.block_lt_of_cell? w _ hw218_2)).trans hw218_2), ((HB.out.cell (World.block_lt_of_cell? w _ hw218_3)).trans hw218_3), ((HB.out.cell (World.block_lt_of_cell? w _ hw218_4)).trans hw218_4), ((HB.out.cell (World.block_lt_of_cell? w _ hw218_5)).trans hw218_5)⟩ (fun hHeld => ?_)
          clear hK K
          refine norm_ (a' := ?_) ?_ ?_
          rotate_left
          ·show Act.put _ (some 74) _ = _
           simp only [Act.put, List.setIfInBounds_toArray, List.set_cons_zero, List.set_cons_succ, i64_w, i32_w]
           rfl
          refine pure_ (i := 13) (N := some 75) (v := ?_) (a' := ?_) #[true, true, true, true, true, true, true, true, true, true, true, true, true, true] rfl rfl (any_of HT_.out (by kernel_rfl)) (fun _ _ _ h => h) (Or.inl ⟨by rfl, ?_⟩) ?_ ?_
          rotate_left
          ·intro w'
           go_simp
           with_reducible rfl
          rotate_left
          ·simp only [Act.put, List.setIfInBounds_toArray, List.set_cons_zero, List.set_cons_succ, i64_w, i32_w]
           rfl
          refine done_ (qDn HT_.out (by kernel_rfl)) ?_
          try go_wp2
          go_ret
          exact ⟨by first | rfl | (simp [qAm, qAl] <;> rfl) | (simp [*, qAm, qAl] <;> rfl), by repeat (first | (with_reducible first | exact HB.out | apply qAd | apply qAb | apply qAe | refine qAg ?_ GE214.out | refine qAg ?_ GE215.out) | exact HB.out)⟩
        ·rw [if_neg c38] at H
         exact absurd H (by simp)
       ·rw [if_neg c37] at H
        exact absurd H (by simp)
      ·rw [if_neg c36] at H
       have c36b0 : decide (x7_2 < (l0_4.length : Int)) = false := decide_eq_false c36
       clear c36
       obtain rfl := Option.some.inj H
       have hnb49 := NB214_215.out
       have hnc49 := NB215_214.out
       have hcz50_0 : wr.cell? ⟨gb214, 0, none⟩ = some (.int .i64 a0_0) := (qAc BK214.out 0).trans rfl
       have hcz50_1 : wr.cell? ⟨gb214, 1, none⟩ = some (.bool a0_1) := (qAc BK214.out 1).trans rfl
       have hcz50_2 : wr.cell? ⟨gb214, 2, none⟩ = some (.int .i64 a0_2) := (qAc BK214.out 2).trans rfl
       have hcz50_3 : wr.cell? ⟨gb214, 3, none⟩ = some (.string a0_3) := (qAc BK214.out 3).trans rfl
       have hcz50_4 : wr.cell? ⟨gb214, 4, none⟩ = some (.slice A0_4 l0_4.length c0_4) := (qAc BK214.out 4).trans rfl
       have hcz50_5 : wr.cell? ⟨gb214, 5, none⟩ = some (.slice A0_5 l0_5.length c0_5) := (qAc BK214.out 5).trans rfl
       have hfz50_0 := qAa BK214.out 0
       have hfz50_1 := qAa BK214.out 1
       have hfz50_2 := qAa BK214.out 2
       have hfz50_3 := qAa BK214.out 3
       have hfz50_4 := qAa BK214.out 4
       have hfz50_5 := qAa BK214.out 5
       go_wp2
       go_ret
       exact ⟨by first | rfl | (simp [qAm, qAl] <;> rfl) | (simp [*, qAm, qAl] <;> rfl), by repeat (first | (with_reducible first | exact HB.out | apply qAd | apply qAb | apply qAe | refine qAg ?_ GE214.out | refine qAg ?_ GE215.out) | exact HB.out)⟩
end Go.Proofs.YtbnoihpooeombaaDoor.P

namespace Go.Proofs.YtbnoihpooeombaaDoor.P
open Go.Proofs.YtbnoihpooeombaaDoor.X
open Go.RowKit Go.Proofs.YtbnoihpooeombaaDoorW.PrintWords Go.Proofs.YtbnoihpooeombaaDoorW.PrintLast Go.Proofs.YtbnoihpooeombaaDoorW.PrintMore
attribute [local go_sem] qAr qAy
set_option linter.unusedVariables false
set_option linter.unusedSimpArgs false
mutual
def hogsheadref15_Get.j0 : Nat → ByteArray → Bool → Int → Bool → Int → ByteArray → List (S25) → List ByteArray → Option (Int × Bool × Int × ByteArray × (List (S25)) × List ByteArray × Bool)
 | 0, _, _, _, _, _, _, _, _ => none
 | k + 1, x1, x14, x202000, x202001, x202002, x202003, x202004, x202005 => if x14 = true then (some (0, false, 0, (⟨#[]⟩ : ByteArray), ([] : List (S25)), ([] : List ByteArray), false)) else (hogsheadref15_Get.l0 k x1 0 x202000 x202001 x202002 x202003 x202004 x202005)
def hogsheadref15_Get.l0 : Nat → ByteArray → Int → Int → Bool → Int → ByteArray → List (S25) → List ByteArray → Option (Int × Bool × Int × ByteArray × (List (S25)) × List ByteArray × Bool)
 | 0, _, _, _, _, _, _, _, _ => none
 | k + 1, x1, x6, x202000, x202001, x202002, x202003, x202004, x202005 => if x6 < (x202005.length : Int) then (if 0 ≤ x6 then (if (rdOf ByteArray.empty x202005 x6).toList = x1.toList then (if x6 < (x202004.length : Int) then (some ((rd_T25 x202004 x6).f0, (rd_T25 x202004 x6).f1, (rd_T25 x202004 x6).f2, (rd_T25 x202004 x6).f3, (rd_T25 x202004 x6).f4, (rd_T25 x202004 x6).f5, true)) else (none)) else (hogsheadref15_Get.l0 k x1 (wrap64 (x6 + 1)) x202000 x202001 x202002 x202003 x202004 x202005)) else (none)) else (some (0, false, 0, (⟨#[]⟩ : ByteArray), ([] : List (S25)), ([] : List ByteArray), false))
end
def hogsheadref15_Get.f (k : Nat) (a0_0 : Int) (a0_1 : Bool) (a0_2 : Int) (a0_3 : ByteArray) (l0_4 : List (S25)) (l0_5 : List ByteArray) (a1 : ByteArray) : Option (Int × Bool × Int × ByteArray × (List (S25)) × List ByteArray × Bool) := if a0_0 = 5 then ((hogsheadref15_May.f k a0_0 a0_1 a0_2 a0_3 l0_4 l0_5).bind fun t203 => (hogsheadref15_Get.j0 k a1 (!t203) a0_0 a0_1 a0_2 a0_3 l0_4 l0_5)) else (hogsheadref15_Get.j0 k a1 true a0_0 a0_1 a0_2 a0_3 l0_4 l0_5)
end Go.Proofs.YtbnoihpooeombaaDoor.P

namespace Go.Proofs.YtbnoihpooeombaaDoor.X
open Go.RowKit Go.Proofs.YtbnoihpooeombaaDoorW.PrintWords Go.Proofs.YtbnoihpooeombaaDoor.P
set_option linter.unusedVariables false
set_option linter.unusedSimpArgs false
theorem qEm (a b : List ByteArray) (h : a.length = b.length) (hn : a.length ≤ 1000000) : ∀ (d i : Nat), a.length - i = d → i ≤ a.length →
    Ev (fun k => hogsheadlaw0_SameTexts.l0 k a b (i : Int)) (decide (a.drop i = b.drop i)) := by
  intro d
  induction d with
  | zero =>
    intro i hd hi
    refine ⟨1, fun k hk => ?_⟩
    obtain ⟨k, rfl⟩ : ∃ m, k = m + 1 := ⟨k - 1, by omega⟩
    simp only [hogsheadlaw0_SameTexts.l0]
    rw [if_neg (by omega), List.drop_eq_nil_of_le (by omega), List.drop_eq_nil_of_le (by omega)]
    rfl
  | succ d ih =>
    intro i hd hi
    have hlt : i < a.length := by omega
    have hlt2 : i < b.length := by omega
    obtain ⟨K, hK⟩ := ih (i + 1) (by omega) (by omega)
    refine ⟨K + 1, fun k hk => ?_⟩
    obtain ⟨k, rfl⟩ : ∃ m, k = m + 1 := ⟨k - 1, by omega⟩
    simp only [hogsheadlaw0_SameTexts.l0]
    rw [if_pos (by omega), if_pos (by omega), if_pos (by omega), qA3 a i hlt, qA3 b i hlt2, List.drop_eq_getElem_cons hlt, List.drop_eq_getElem_cons hlt2]
    by_cases e : a[i] = b[i]
    · rw [if_pos ((qBk _ _).2 e), wrap_i i a.length hlt (by omega)]
      have := hK k (by omega)
      simp only at this
      rw [this, e]
      congr 1
      rw [decide_eq_decide, List.cons.injEq]
      simp only [true_and]
    · rw [if_neg (fun h => e ((qBk _ _).1 h))]
      congr 1
      symm
      rw [decide_eq_false_iff_not, List.cons.injEq]
      exact fun x => e x.1
theorem qC2 (a b : List ByteArray) (hn : a.length ≤ 1000000) : Ev (fun k => hogsheadlaw0_SameTexts.f k a b) (decide (a = b)) := by
  by_cases h : a.length = b.length
  · obtain ⟨K, hK⟩ := qEm a b h hn a.length 0 (by omega) (by omega)
    refine ⟨K, fun k hk => ?_⟩
    have := hK k hk
    show hogsheadlaw0_SameTexts.f k a b = _
    unfold hogsheadlaw0_SameTexts.f
    rw [if_pos (by omega)]
    exact this
  · refine ⟨0, fun k hk => ?_⟩
    show hogsheadlaw0_SameTexts.f k a b = _
    unfold hogsheadlaw0_SameTexts.f
    rw [if_neg (by omega), decide_eq_false (fun e => h (by rw [e]))]
theorem qEk : ∀ (d : Nat), d ≤ 1000 → ∀ (a b : S25), (∃ D, T D 100000 a) → Ev (fun k => hogsheadlaw0_SameValue.f k a.f0 a.f1 a.f2 a.f3 a.f4 a.f5 b.f0 b.f1 b.f2 b.f3 b.f4 b.f5 (d : Int)) (sameV d a b) := by
  intro d
  induction d with
  | zero =>
    intro hd a b ⟨D, hT⟩
    obtain ⟨K, hK⟩ := qC2 a.f5 b.f5 (by have := hT.len; omega)
    refine ⟨K + 2, fun k hk => ?_⟩
    obtain ⟨k, rfl⟩ : ∃ m, k = m + 2 := ⟨k - 2, by omega⟩
    have hK := hK (k + 1) (by omega)
    simp only at hK
    simp only [hogsheadlaw0_SameValue.f, hogsheadlaw0_SameValue.j0, hK, Option.bind_some]
    rw [sameV]
    simp
  | succ d ih =>
    intro hd a b hT0
    obtain ⟨D, hT⟩ := hT0
    have hlen := hT.len
    obtain ⟨K, hK⟩ := qC2 a.f5 b.f5 (by omega)
    have hch : ∀ y ∈ a.f4, ∀ z, Ev (fun k => hogsheadlaw0_SameValue.f k y.f0 y.f1 y.f2 y.f3 y.f4 y.f5 z.f0 z.f1 z.f2 z.f3 z.f4 z.f5 (d : Int)) (sameV d y z) := fun y hy z => by
      cases D with
      | zero => exact hT.1.elim
      | succ D => exact ih (by omega) y z ⟨D, hT.child hy⟩
    have hloop : a.f4.length = b.f4.length → ∀ (j i : Nat), a.f4.length - i = j → i ≤ a.f4.length → Ev (fun k => hogsheadlaw0_SameValue.l0 k ((d + 1 : Nat) : Int) (i : Int) a.f0 a.f1 a.f2 a.f3 a.f4 a.f5 b.f0 b.f1 b.f2 b.f3 b.f4 b.f5) (allEq (sameV d) (a.f4.drop i) (b.f4.drop i)) := by
      intro hl j
      induction j with
      | zero =>
        intro i hj hi
        refine ⟨1, fun k hk => ?_⟩
        obtain ⟨k, rfl⟩ : ∃ m, k = m + 1 := ⟨k - 1, by omega⟩
        simp only [hogsheadlaw0_SameValue.l0]
        rw [if_neg (by omega), List.drop_eq_nil_of_le (by omega), List.drop_eq_nil_of_le (by omega)]
        rfl
      | succ j ihj =>
        intro i hj hi
        have hlt : i < a.f4.length := by omega
        have hlt2 : i < b.f4.length := by omega
        obtain ⟨K1, h1⟩ := hch a.f4[i] (List.getElem_mem hlt) b.f4[i]
        obtain ⟨K2, h2⟩ := ihj (i + 1) (by omega) (by omega)
        refine ⟨K1 + K2 + 1, fun k hk => ?_⟩
        obtain ⟨k, rfl⟩ : ∃ m, k = m + 1 := ⟨k - 1, by omega⟩
        have h1 := h1 k (by omega)
        have h2 := h2 k (by omega)
        simp only at h1 h2
        have E1 : Aside0 (wrap64 (((d + 1 : Nat) : Int) - 1) = (d : Int)) := ⟨qBm (by omega) (by omega)⟩
        have E3 : Aside0 (wrap64 ((i : Int) + 1) = ((i + 1 : Nat) : Int)) := ⟨qBm (by omega) (by omega)⟩
        simp only [hogsheadlaw0_SameValue.l0]
        rw [if_pos (by omega), if_pos (by omega), if_pos (by omega), qB2 a.f4 i hlt, qB2 b.f4 i hlt2, E1.out, h1, E3.out, h2, List.drop_eq_getElem_cons hlt, List.drop_eq_getElem_cons hlt2, allEq]
        simp only [Option.bind_some]
        cases sameV d a.f4[i] b.f4[i]
        · rw [if_neg (by decide)]; rfl
        · rw [if_pos rfl]; rfl
    have hfin : ∃ K2, ∀ k, K2 ≤ k → a.f4.length = b.f4.length → hogsheadlaw0_SameValue.l0 k ((d + 1 : Nat) : Int) 0 a.f0 a.f1 a.f2 a.f3 a.f4 a.f5 b.f0 b.f1 b.f2 b.f3 b.f4 b.f5 = some (allEq (sameV d) a.f4 b.f4) := by
      by_cases hl : a.f4.length = b.f4.length
      · obtain ⟨K2, h2⟩ := hloop hl a.f4.length 0 (by omega) (by omega)
        exact ⟨K2, fun k hk _ => h2 k hk⟩
      · exact ⟨0, fun k hk h => absurd h hl⟩
    obtain ⟨K2, h2⟩ := hfin
    refine ⟨K + K2 + 2, fun k hk => ?_⟩
    obtain ⟨k, rfl⟩ : ∃ m, k = m + 2 := ⟨k - 2, by omega⟩
    have hK := hK (k + 1) (by omega)
    have h2 := h2 k (by omega)
    simp only at hK
    have hne := qDo (sameV d) a.f4 b.f4
    simp only [hogsheadlaw0_SameValue.f, hogsheadlaw0_SameValue.j0, hK, Option.bind_some]
    rw [sameV]
    by_cases c0 : a.f0 = b.f0
    · rw [if_pos c0, beq_iff_eq.2 c0, Bool.true_and]
      by_cases c1 : a.f1 = b.f1
      · rw [if_neg (by simp [c1]), beq_iff_eq.2 c1, Bool.true_and]
        by_cases c2 : a.f2 = b.f2
        · rw [if_pos c2, beq_iff_eq.2 c2, Bool.true_and]
          by_cases c3 : a.f3.toList = b.f3.toList
          · rw [if_pos c3, beq_iff_eq.2 c3, Bool.true_and]
            by_cases c5 : a.f5 = b.f5
            · rw [if_pos (decide_eq_true c5), decide_eq_true c5, Bool.true_and]
              by_cases c4 : a.f4.length = b.f4.length
              · rw [if_pos (by omega), if_neg (by rw [decide_eq_true_eq]; omega)]
                exact h2 c4
              · rw [if_neg (by omega), hne c4]; simp
            · rw [if_neg (by simp [c5]), decide_eq_false c5]; simp
          · rw [if_neg c3, beq_eq_false_iff_ne.2 c3]; simp
        · rw [if_neg c2, beq_eq_false_iff_ne.2 c2]; simp
      · rw [if_pos (by simp [c1]), beq_eq_false_iff_ne.2 c1]; simp
    · rw [if_neg c0, beq_eq_false_iff_ne.2 c0]; simp
theorem qDv : ∀ D a b, tameD D a → (sameV D a b = true ↔ a = b)
  | 0, a, b, h => h.elim
  | d + 1, a, b, h => by
    rw [sameV]
    simp only [Bool.and_eq_true, beq_iff_eq, decide_eq_true_eq]
    rw [qDp (sameV d) a.f4 b.f4 (fun x hx y => qDv d x y (h.2.2.2 x hx)), qBk]
    cases a; cases b
    simp only [S25.mk.injEq]
    constructor
    · rintro ⟨h0, h1, h2, h3, h5, h4⟩; exact ⟨h0, h1, h2, h3, h4, h5⟩
    · rintro ⟨h0, h1, h2, h3, h4, h5⟩; exact ⟨h0, h1, h2, h3, h5, h4⟩
theorem qDu (D : Nat) (hD : D ≤ 100) (a : S25) (hT : T D 100000 a) : Ev (fun k => hogsheadlaw0_SameValue.f k a.f0 a.f1 a.f2 a.f3 a.f4 a.f5 a.f0 a.f1 a.f2 a.f3 a.f4 a.f5 100) true := by
  have h := qEk 100 (by omega) a a ⟨D, hT⟩
  rw [(qDv 100 a a (qB0 hD a hT.1).1).2 rfl] at h
  exact h
def nilV : S25 := ⟨0, false, 0, ⟨#[]⟩, [], []⟩
def getV (x : S25) (key : ByteArray) : Option S25 := if x.f0 = 5 ∧ goodV 16 x = true ∧ isK x.f5 key = true then x.f4[posK x.f5 key]? else none
def tup (o : Option S25) : Int × Bool × Int × ByteArray × List S25 × List ByteArray × Bool :=
  ((o.getD nilV).f0, (o.getD nilV).f1, (o.getD nilV).f2, (o.getD nilV).f3, (o.getD nilV).f4, (o.getD nilV).f5, o.isSome)
theorem isK_lt {K : List ByteArray} {key : ByteArray} (h : isK K key = true) : posK K key < K.length ∧ ∀ h : posK K key < K.length, K[posK K key] = key := by
  obtain ⟨h1, h2⟩ := of_decide_eq_true h
  exact ⟨h1, fun _ => h2⟩
theorem qFd {x : S25} (h5 : x.f0 = 5) (hg : goodV 16 x = true) : x.f5.length = x.f4.length ∧ qAx x.f5 = true := by
  have hf := qCd (qB7 (d := 15) hg).1
  exact ⟨hf.2.2.2.2.1 h5, hf.2.2.2.2.2.2.2.2.2.2⟩
theorem qH5 {D : Nat} {x : S25} (key : ByteArray) (hT : T D 4000 x) : Ev (fun k => value_Get.f k x.f0 x.f1 x.f2 x.f3 x.f4 x.f5 key) (tup (getV x key)) := by
  have hl := hT.len
  by_cases h5 : x.f0 = 5
  · cases hg : goodV 16 x with
    | false =>
      refine ⟨0, fun k hk => ?_⟩
      show value_Get.f k _ _ _ _ _ _ _ = _
      unfold value_Get.f
      rw [if_pos h5]
      have hm : (mayV 16 ⟨x.f0, x.f1, x.f2, x.f3, x.f4, x.f5⟩ 0).2 = false := (qB3 D x hT).trans hg
      rw [if_neg (by rw [hm]; decide), getV, if_neg (by rw [hg]; simp)]
      rfl
    | true =>
      obtain ⟨he, hr⟩ := qFd h5 hg
      obtain ⟨K, hK⟩ := qEj x.f5 key hr (by omega)
      refine ⟨K, fun k hk => ?_⟩
      have hK := hK k hk
      simp only at hK
      show value_Get.f k _ _ _ _ _ _ _ = _
      unfold value_Get.f
      have hm : (mayV 16 ⟨x.f0, x.f1, x.f2, x.f3, x.f4, x.f5⟩ 0).2 = true := (qB3 D x hT).trans hg
      rw [if_pos h5, if_pos hm, hK]
      simp only [Option.bind_some]
      cases hi : isK x.f5 key with
      | false => rw [if_neg (by decide), getV, if_neg (by rw [hi]; simp)]; rfl
      | true =>
        have hp := (isK_lt hi).1
        rw [if_pos rfl, if_pos ⟨by omega, by omega⟩, getV, if_pos ⟨h5, hg, hi⟩, qB2 x.f4 _ (by omega), List.getElem?_eq_getElem (by omega)]
        rfl
  · refine ⟨0, fun k hk => ?_⟩
    show value_Get.f k _ _ _ _ _ _ _ = _
    unfold value_Get.f
    rw [if_neg h5, getV, if_neg (fun h => h5 h.1)]
    rfl
end Go.Proofs.YtbnoihpooeombaaDoor.X
