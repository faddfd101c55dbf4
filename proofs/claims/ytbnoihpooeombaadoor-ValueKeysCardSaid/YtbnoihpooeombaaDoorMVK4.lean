/- Part 4 of what is behind the row RowValueKeys: Pf15, XVW, Pf6, Pf32, Pf7, XVB, Pf29, XVPB, XVPD, Pf5. -/
import Derived.Test.YtbnoihpooeombaaDoorMVK3
import Derived.Test.YtbnoihpooeombaaDoorProg
import Derived.Below
import Derived.Deep.Draws
import Derived.Deep.AppendLies
import Derived.Maps.AppendAt
import Derived.OwnWalk
import Derived.Laws.BytesArg
import Derived.Laws.MakeOwn
import Derived.Laws.OwnMore
import Derived.Deep.OwnRows
import Derived.Tactics
import Derived.Lib.ConvBytes
import Derived.Laws.Slices
import Derived.WalkKit
import Derived.KernelRfl
import Derived.RowKit3
import Derived.Deep.LoopGhost
import Derived.Deep.QuietTactic
import Derived.BigQuiet
import Derived.WideLaws
import Derived.Deep.DeepCutAuto
import Derived.Deep.CutBlock
import Derived.Deep.RegionHeld3
import Derived.Laws.Rows
import Derived.Lib.AppendStr
import Derived.ArgAppend
import Derived.Laws.IdiomCopy
import Derived.OrdersHeld
import Derived.Laws.BitsLemmas
import Derived.RowKit
import Derived.Laws.Cover1
import Derived.Laws.StructEq
import Derived.Lib.ItoaNum
import Derived.Lib.ItoaMem
import Derived.Deep.AppendSrc
import Derived.Lib.SliceRun
import Derived.Outline
import Derived.WalkLawsBesides
import Derived.WalkSpells
import Derived.LoopTactic
import Derived.Lib.Hide
import Derived.Lib.IndexMore
import Derived.Lib.Bytealg
import Derived.Laws.BitsAllLaws
import Derived.Lib.Repeat
import Derived.Lib.AppendZerosOnto
import Derived.Lib.Overlaps
import Derived.Laws.Externs
import Derived.Laws.CopyOwn
import Derived.Shelf.RegionOpenPlain
import Derived.Laws.Bits64b
import Derived.Laws.NewBlocks
import Derived.Lib.AppendIntMem
import Derived.Shelf.Strings.Builder1
import Derived.Shelf.Strings.Builder2
import Derived.Shelf.Strings.OnBuilder
import Derived.Shelf.Strings.BuilderF
import Derived.Shelf.Strings.BuilderK
import Derived.Shelf.Strconv.Itoa0
import Derived.Shelf.Strconv.Itoa1
import Derived.Shelf.LaysM
import Derived.Shelf.Strconv.Itoa2
import Derived.Shelf.Strconv.Itoa3
import Derived.Shelf.Strings.Prefix
import Derived.Shelf.Bits.Mul64
import Derived.Shelf.Strings.Repeat
import Derived.Deep.DeepMust
import Derived.Lib.ItoaLen
namespace Go.Proofs.YtbnoihpooeombaaDoor.P
open Go.Proofs.YtbnoihpooeombaaDoor.X
open Go.RowKit Go.Proofs.YtbnoihpooeombaaDoorW.PrintWords Go.Proofs.YtbnoihpooeombaaDoorW.PrintLast Go.Proofs.YtbnoihpooeombaaDoorW.PrintMore
attribute [local go_sem] qAu qA0
set_option linter.unusedVariables false
set_option linter.unusedSimpArgs false
def hogsheadlaw15_awake.f (k : Nat)  : Option (Bool) := (value_Of.f k (([(⟨#[98]⟩ : ByteArray), (⟨#[97]⟩ : ByteArray)] : List ByteArray)) (([(⟨2, false, 1, (⟨#[]⟩ : ByteArray), ([] : List (S25)), ([] : List ByteArray)⟩ : S25), (⟨1, true, 0, (⟨#[]⟩ : ByteArray), ([] : List (S25)), ([] : List ByteArray)⟩ : S25)] : List (S25)))).bind fun bt161 => ((value_Lay.f k bt161.1 bt161.2.1 bt161.2.2.1 bt161.2.2.2.1 bt161.2.2.2.2.1 bt161.2.2.2.2.2).bind fun bt172 => ((value_Get.f k bt161.1 bt161.2.1 bt161.2.2.1 bt161.2.2.2.1 bt161.2.2.2.2.1 bt161.2.2.2.2.2 (⟨#[98]⟩ : ByteArray)).bind fun bt174 => (if bt172.1.toList = ([123, 34, 97, 34, 58, 116, 114, 117, 101, 44, 34, 98, 34, 58, 49, 125] : List UInt8) then (if bt172.2 = 0 then (if bt174.2.2.1 = 1 then (if bt174.2.2.2.2.2.2 = true then ((value_May.f bt161.1 bt161.2.1 bt161.2.2.1 bt161.2.2.2.1 bt161.2.2.2.2.1 bt161.2.2.2.2.2).bind fun t186 => (if t186 = true then ((value_Same.f bt161.1 bt161.2.1 bt161.2.2.1 bt161.2.2.2.1 bt161.2.2.2.2.1 bt161.2.2.2.2.2 bt161.1 bt161.2.1 bt161.2.2.1 bt161.2.2.2.1 bt161.2.2.2.2.1 bt161.2.2.2.2.2).bind fun t187 => (some t187)) else (some false))) else (some false)) else (some false)) else (some false)) else (some false))))
theorem hogsheadlaw15_awake.mono : ∀ k, LeO (hogsheadlaw15_awake.f k ) (hogsheadlaw15_awake.f (k + 1) ) := by
 intro  k
 unfold hogsheadlaw15_awake.f
 repeat' first
   | (with_reducible exact value_Get.mono _ _ _ _ _ _ _ _)
   | (with_reducible exact value_Lay.mono _ _ _ _ _ _ _)
   | (with_reducible exact value_Of.mono _ _ _)
   | (with_reducible exact LeO.refl _)
   | (with_reducible exact LeO.none _)
   | (with_reducible refine LeO.ite ?_ ?_)
   | (with_reducible refine LeO.bind ?_ (fun _ => ?_))
   | exact value_Get.mono _ _ _ _ _ _ _ _
   | exact value_Lay.mono _ _ _ _ _ _ _
   | exact value_Of.mono _ _ _
   | exact LeO.none _
   | refine LeO.ite ?_ ?_
   | refine LeO.bind ?_ (fun _ => ?_)
set_option maxHeartbeats 8000000 in
set_option maxRecDepth 100000 in
theorem hogsheadlaw15_awake.calls_true (k : Nat)  (r : Bool) (w : World) (hT : Aside0 (Tabs w)) (h : hogsheadlaw15_awake.f k  = some r) (hr_ : Aside0 (r = true)) :
  Calls Tryd.prog 15 #[] w fun e w' => e = .returned (.bool r) ∧ Below w.heap.size w w' := by
 have hu25 := Tryd.underlying25
 have HB := Aside0.mk (Below.refl w.heap.size w)
 have H : ((value_Of.f k (([(⟨#[98]⟩ : ByteArray), (⟨#[97]⟩ : ByteArray)] : List ByteArray)) (([(⟨2, false, 1, (⟨#[]⟩ : ByteArray), ([] : List (S25)), ([] : List ByteArray)⟩ : S25), (⟨1, true, 0, (⟨#[]⟩ : ByteArray), ([] : List (S25)), ([] : List ByteArray)⟩ : S25)] : List (S25)))).bind fun bt161 => ((value_Lay.f k bt161.1 bt161.2.1 bt161.2.2.1 bt161.2.2.2.1 bt161.2.2.2.2.1 bt161.2.2.2.2.2).bind fun bt172 => ((value_Get.f k bt161.1 bt161.2.1 bt161.2.2.1 bt161.2.2.2.1 bt161.2.2.2.2.1 bt161.2.2.2.2.2 (⟨#[98]⟩ : ByteArray)).bind fun bt174 => (if bt172.1.toList = ([123, 34, 97, 34, 58, 116, 114, 117, 101, 44, 34, 98, 34, 58, 49, 125] : List UInt8) then (if bt172.2 = 0 then (if bt174.2.2.1 = 1 then (if bt174.2.2.2.2.2.2 = true then ((value_May.f bt161.1 bt161.2.1 bt161.2.2.1 bt161.2.2.2.1 bt161.2.2.2.2.1 bt161.2.2.2.2.2).bind fun t186 => (if t186 = true then ((value_Same.f bt161.1 bt161.2.1 bt161.2.2.1 bt161.2.2.2.1 bt161.2.2.2.2.1 bt161.2.2.2.2.2 bt161.1 bt161.2.1 bt161.2.2.1 bt161.2.2.2.1 bt161.2.2.2.2.1 bt161.2.2.2.2.2).bind fun t187 => (some t187)) else (some false))) else (some false)) else (some false)) else (some false)) else (some false))))) = some r := h
 clear h
 obtain ⟨y155, hy155⟩ : ∃ y_ : List ByteArray, y_ = (([(⟨#[98]⟩ : ByteArray), (⟨#[97]⟩ : ByteArray)] : List ByteArray)) := ⟨_, rfl⟩
 replace H : ((value_Of.f k y155 (([(⟨2, false, 1, (⟨#[]⟩ : ByteArray), ([] : List (S25)), ([] : List ByteArray)⟩ : S25), (⟨1, true, 0, (⟨#[]⟩ : ByteArray), ([] : List (S25)), ([] : List ByteArray)⟩ : S25)] : List (S25)))).bind fun bt161 => ((value_Lay.f k bt161.1 bt161.2.1 bt161.2.2.1 bt161.2.2.2.1 bt161.2.2.2.2.1 bt161.2.2.2.2.2).bind fun bt172 => ((value_Get.f k bt161.1 bt161.2.1 bt161.2.2.1 bt161.2.2.2.1 bt161.2.2.2.2.1 bt161.2.2.2.2.2 (⟨#[98]⟩ : ByteArray)).bind fun bt174 => (if bt172.1.toList = ([123, 34, 97, 34, 58, 116, 114, 117, 101, 44, 34, 98, 34, 58, 49, 125] : List UInt8) then (if bt172.2 = 0 then (if bt174.2.2.1 = 1 then (if bt174.2.2.2.2.2.2 = true then ((value_May.f bt161.1 bt161.2.1 bt161.2.2.1 bt161.2.2.2.1 bt161.2.2.2.2.1 bt161.2.2.2.2.2).bind fun t186 => (if t186 = true then ((value_Same.f bt161.1 bt161.2.1 bt161.2.2.1 bt161.2.2.2.1 bt161.2.2.2.2.1 bt161.2.2.2.2.2 bt161.1 bt161.2.1 bt161.2.2.1 bt161.2.2.2.1 bt161.2.2.2.2.1 bt161.2.2.2.2.2).bind fun t187 => (some t187)) else (some false))) else (some false)) else (some false)) else (some false)) else (some false))))) = some r := by first | (rw [hy155]; with_reducible exact H) | (have H2_ := (Option.bind_some _ _).symm.trans H; rw [hy155]; with_reducible exact H2_) | (have H2_ := (Option.bind_some _ _).symm.trans H; with_reducible exact H2_) | with_reducible exact H | (rw [hy155]; exact H) | exact H
 have Ny155 := Aside0.mk hy155
 clear hy155
 obtain ⟨y158, hy158⟩ : ∃ y_ : List (S25), y_ = (([(⟨2, false, 1, (⟨#[]⟩ : ByteArray), ([] : List (S25)), ([] : List ByteArray)⟩ : S25), (⟨1, true, 0, (⟨#[]⟩ : ByteArray), ([] : List (S25)), ([] : List ByteArray)⟩ : S25)] : List (S25))) := ⟨_, rfl⟩
 replace H : ((value_Of.f k y155 y158).bind fun bt161 => ((value_Lay.f k bt161.1 bt161.2.1 bt161.2.2.1 bt161.2.2.2.1 bt161.2.2.2.2.1 bt161.2.2.2.2.2).bind fun bt172 => ((value_Get.f k bt161.1 bt161.2.1 bt161.2.2.1 bt161.2.2.2.1 bt161.2.2.2.2.1 bt161.2.2.2.2.2 (⟨#[98]⟩ : ByteArray)).bind fun bt174 => (if bt172.1.toList = ([123, 34, 97, 34, 58, 116, 114, 117, 101, 44, 34, 98, 34, 58, 49, 125] : List UInt8) then (if bt172.2 = 0 then (if bt174.2.2.1 = 1 then (if bt174.2.2.2.2.2.2 = true then ((value_May.f bt161.1 bt161.2.1 bt161.2.2.1 bt161.2.2.2.1 bt161.2.2.2.2.1 bt161.2.2.2.2.2).bind fun t186 => (if t186 = true then ((value_Same.f bt161.1 bt161.2.1 bt161.2.2.1 bt161.2.2.2.1 bt161.2.2.2.2.1 bt161.2.2.2.2.2 bt161.1 bt161.2.1 bt161.2.2.1 bt161.2.2.2.1 bt161.2.2.2.2.1 bt161.2.2.2.2.2).bind fun t187 => (some t187)) else (some false))) else (some false)) else (some false)) else (some false)) else (some false))))) = some r := by first | (rw [hy158]; with_reducible exact H) | (have H2_ := (Option.bind_some _ _).symm.trans H; rw [hy158]; with_reducible exact H2_) | (have H2_ := (Option.bind_some _ _).symm.trans H; with_reducible exact H2_) | with_reducible exact H | (rw [hy158]; exact H) | exact H
 have Ny158 := Aside0.mk hy158
 clear hy158
 replace H := Option.bind_eq_some_iff.mp H
 obtain ⟨⟨t161, t162, t163, t164, t165, t168⟩, A10, H⟩ := H
 replace H : ((value_Lay.f k t161 t162 t163 t164 t165 t168).bind fun bt172 => ((value_Get.f k t161 t162 t163 t164 t165 t168 (⟨#[98]⟩ : ByteArray)).bind fun bt174 => (if bt172.1.toList = ([123, 34, 97, 34, 58, 116, 114, 117, 101, 44, 34, 98, 34, 58, 49, 125] : List UInt8) then (if bt172.2 = 0 then (if bt174.2.2.1 = 1 then (if bt174.2.2.2.2.2.2 = true then ((value_May.f t161 t162 t163 t164 t165 t168).bind fun t186 => (if t186 = true then ((value_Same.f t161 t162 t163 t164 t165 t168 t161 t162 t163 t164 t165 t168).bind fun t187 => (some t187)) else (some false))) else (some false)) else (some false)) else (some false)) else (some false)))) = some r := H
 have A1 := Aside0.mk A10
 clear A10
 replace H := Option.bind_eq_some_iff.mp H
 obtain ⟨⟨t172, t173⟩, A20, H⟩ := H
 replace H : ((value_Get.f k t161 t162 t163 t164 t165 t168 (⟨#[98]⟩ : ByteArray)).bind fun bt174 => (if t172.toList = ([123, 34, 97, 34, 58, 116, 114, 117, 101, 44, 34, 98, 34, 58, 49, 125] : List UInt8) then (if t173 = 0 then (if bt174.2.2.1 = 1 then (if bt174.2.2.2.2.2.2 = true then ((value_May.f t161 t162 t163 t164 t165 t168).bind fun t186 => (if t186 = true then ((value_Same.f t161 t162 t163 t164 t165 t168 t161 t162 t163 t164 t165 t168).bind fun t187 => (some t187)) else (some false))) else (some false)) else (some false)) else (some false)) else (some false))) = some r := H
 have A2 := Aside0.mk A20
 clear A20
 replace H := Option.bind_eq_some_iff.mp H
 obtain ⟨⟨t174, t175, t176, t177, t178, t181, t184⟩, A30, H⟩ := H
 replace H : (if t172.toList = ([123, 34, 97, 34, 58, 116, 114, 117, 101, 44, 34, 98, 34, 58, 49, 125] : List UInt8) then (if t173 = 0 then (if t176 = 1 then (if t184 = true then ((value_May.f t161 t162 t163 t164 t165 t168).bind fun t186 => (if t186 = true then ((value_Same.f t161 t162 t163 t164 t165 t168 t161 t162 t163 t164 t165 t168).bind fun t187 => (some t187)) else (some false))) else (some false)) else (some false)) else (some false)) else (some false)) = some r := H
 have A3 := Aside0.mk A30
 clear A30
 by_cases c4 : t172.toList = ([123, 34, 97, 34, 58, 116, 114, 117, 101, 44, 34, 98, 34, 58, 49, 125] : List UInt8)
 ·rw [if_pos c4] at H
  have c4b0 : (t172.toList == ([123, 34, 97, 34, 58, 116, 114, 117, 101, 44, 34, 98, 34, 58, 49, 125] : List UInt8)) = true := beq_iff_eq.mpr c4
  have c4b1 : (t172.toList != ([123, 34, 97, 34, 58, 116, 114, 117, 101, 44, 34, 98, 34, 58, 49, 125] : List UInt8)) = false := bne_eq_false_iff_eq.mpr c4
  clear c4
  by_cases c5 : t173 = 0
  ·rw [if_pos c5] at H
   have c5b0 : (t173 == 0) = true := beq_iff_eq.mpr c5
   have c5b1 : (t173 != 0) = false := bne_eq_false_iff_eq.mpr c5
   clear c5
   by_cases c6 : t176 = 1
   ·rw [if_pos c6] at H
    have c6b0 : (t176 == 1) = true := beq_iff_eq.mpr c6
    have c6b1 : (t176 != 1) = false := bne_eq_false_iff_eq.mpr c6
    clear c6
    by_cases c7 : t184 = true
    ·subst c7
     have H1 : ((value_May.f t161 t162 t163 t164 t165 t168).bind fun t186 => (if t186 = true then ((value_Same.f t161 t162 t163 t164 t165 t168 t161 t162 t163 t164 t165 t168).bind fun t187 => (some t187)) else (some false))) = some r := by rw [if_pos rfl] at H; exact H
     clear H
     have H := H1
     clear H1
     replace H := Option.bind_eq_some_iff.mp H
     obtain ⟨t186, A80, H⟩ := H
     replace H : (if t186 = true then ((value_Same.f t161 t162 t163 t164 t165 t168 t161 t162 t163 t164 t165 t168).bind fun t187 => (some t187)) else (some false)) = some r := H
     have A8 := Aside0.mk A80
     clear A80
     by_cases c9 : t186 = true
     ·subst c9
      have H1 : ((value_Same.f t161 t162 t163 t164 t165 t168 t161 t162 t163 t164 t165 t168).bind fun t187 => (some t187)) = some r := by rw [if_pos rfl] at H; exact H
      clear H
      have H := H1
      clear H1
      replace H := Option.bind_eq_some_iff.mp H
      obtain ⟨t187, A100, H⟩ := H
      replace H : (some t187) = some r := H
      have A10 := Aside0.mk A100
      clear A100
      obtain rfl := Option.some.inj H
      go_enter Tryd.func15, Tryd.ntmps15
      go_wp2_with (first | ((with_reducible refine qA3 (N := 6) rfl ?_); refine Kd.R_lit Kd.string _ 9 ?hg (N := 6) ?hd (xs := ([(⟨#[98]⟩ : ByteArray), (⟨#[97]⟩ : ByteArray)] : List ByteArray)) (inner := [.string (⟨#[98]⟩ : ByteArray), .string (⟨#[97]⟩ : ByteArray)]) (ok := fun _ => True) (okp := fun _ => True) ?hr ?hp (fun _ hk => hk) trivial (Below.refl _ _) (Nat.le_refl _) (by simp) ?_; (case hd => rfl); (case hg => rfl); (case hr => first | (go_simp; done) | (go_simp; rfl)); (case hp => exact (Reps.one (show Kd.M Kd.string _ _ _ (⟨#[98]⟩ : ByteArray) [.string (⟨#[98]⟩ : ByteArray)] from rfl) (Reps.one (show Kd.M Kd.string _ _ _ (⟨#[97]⟩ : ByteArray) [.string (⟨#[97]⟩ : ByteArray)] from rfl) (Reps.none _ _)))); intro v156 w11 ho12 hb hg_ hnew_; clear hg_ hnew_; (first | rw [← Ny155.out] at ho12 | (simp only [Int.reduceToNat] at ho12; rw [← Ny155.out] at ho12)); have n0_ := Aside0.mk (Kd.R_lower ho12 (qAj (by repeat (first | (with_reducible first | exact HB.out | apply qAd | apply qAc | apply qAe) | exact HB.out)))); have n1_ := Aside0.mk (qAi (by repeat (first | (with_reducible first | exact HB.out | apply qAd | apply qAc | apply qAe) | exact HB.out)) hb); clear HB; have HO157 := n0_; have HB := n1_; clear n0_ n1_; clear hb ho12) | ((with_reducible refine qA3 (N := 9) rfl ?_); refine Kd.R_lit k25 _ 25 ?hg (N := 9) ?hd (xs := ([(⟨2, false, 1, (⟨#[]⟩ : ByteArray), ([] : List (S25)), ([] : List ByteArray)⟩ : S25), (⟨1, true, 0, (⟨#[]⟩ : ByteArray), ([] : List (S25)), ([] : List ByteArray)⟩ : S25)] : List (S25))) (inner := [.int .i64 2, .bool false, .int .i64 1, .string (⟨#[]⟩ : ByteArray), .slice none 0 0, .slice none 0 0, .int .i64 1, .bool true, .int .i64 0, .string (⟨#[]⟩ : ByteArray), .slice none 0 0, .slice none 0 0]) (ok := fun _ => True) (okp := fun _ => True) ?hr ?hp (fun _ hk => hk) trivial (Below.refl _ _) (Nat.le_refl _) (by simp) ?_; (case hd => rfl); (case hg => rfl); (case hr => first | (go_simp; done) | (go_simp; rfl)); (case hp => exact (Reps.c6 (show Kd.M k25 _ _ _ (⟨2, false, 1, (⟨#[]⟩ : ByteArray), ([] : List (S25)), ([] : List ByteArray)⟩ : S25) [.int .i64 2, .bool false, .int .i64 1, .string (⟨#[]⟩ : ByteArray), .slice none 0 0, .slice none 0 0] from (qE7 _ _ _ (⟨2, false, 1, (⟨#[]⟩ : ByteArray), ([] : List (S25)), ([] : List ByteArray)⟩ : S25) (Kd.R_nil _ _ _ _ _) (Kd.R_nil _ _ _ _ _))) (Reps.c6 (show Kd.M k25 _ _ _ (⟨1, true, 0, (⟨#[]⟩ : ByteArray), ([] : List (S25)), ([] : List ByteArray)⟩ : S25) [.int .i64 1, .bool true, .int .i64 0, .string (⟨#[]⟩ : ByteArray), .slice none 0 0, .slice none 0 0] from (qE7 _ _ _ (⟨1, true, 0, (⟨#[]⟩ : ByteArray), ([] : List (S25)), ([] : List ByteArray)⟩ : S25) (Kd.R_nil _ _ _ _ _) (Kd.R_nil _ _ _ _ _))) (Reps.none _ _)))); intro v159 w13 ho14 hb hg_ hnew_; clear hg_ hnew_; (first | rw [← Ny158.out] at ho14 | (simp only [Int.reduceToNat] at ho14; rw [← Ny158.out] at ho14)); have n0_ := Aside0.mk (Kd.R_below (by (with_reducible repeat (first | apply Kd.R_alloc | apply Kd.R_drewN | apply Kd.R_drew)); exact HO157.out) hb); have n1_ := Aside0.mk (Kd.R_lower (Kd.R_new' ho14 (Kd.R_lt (by (with_reducible repeat (first | apply Kd.R_alloc | apply Kd.R_drewN | apply Kd.R_drew)); exact HO157.out))) (qAj (by repeat (first | (with_reducible first | exact HB.out | apply qAd | apply qAc | apply qAe) | exact HB.out)))); have n2_ := Aside0.mk (qAi (by repeat (first | (with_reducible first | exact HB.out | apply qAd | apply qAc | apply qAe) | exact HB.out)) hb); clear HO157; clear HB; have HO157 := n0_; have HO160 := n1_; have HB := n2_; clear n0_ n1_ n2_; clear hb ho14; obtain ⟨Ao15, co15, eo15⟩ := Kd.R_slice HO157.out; subst eo15; obtain ⟨Ao16, co16, eo16⟩ := Kd.R_slice HO160.out; subst eo16) | ((with_reducible refine qAp (f := 30) rfl ?_); refine goesL_ (some 10) rfl rfl Tryd.func30 (by kernel_rfl) rfl #[.slice Ao15 y155.length co15, .slice Ao16 y158.length co16] rfl (by (try simp only [List.map_toArray, List.map_cons, List.map_nil]); first | done | rfl | (simp only [List.length_drop, List.length_take]; rfl)) ?_; (with_reducible refine (value_Of.calls k _ _ y155 _ _ y158 t161 t162 t163 t164 t165 t168 _ ?side1 ?side2 ?side3 ?side4 A1.out).mono ?_); (case side1 => repeat (first | exact (Kd.R_reads' HO157.out).2.2 | (with_reducible refine Kd.C_alloc ?_ _) | (with_reducible refine Kd.C_drewN ?_ _) | (with_reducible refine Kd.C_drew ?_))); (case side2 => exact (Kd.R_reads' HO157.out).2.1); (case side3 => repeat (first | exact (Kd.R_reads' HO160.out).2.2 | (with_reducible refine Kd.C_alloc ?_ _) | (with_reducible refine Kd.C_drewN ?_ _) | (with_reducible refine Kd.C_drew ?_))); (case side4 => exact (Kd.R_reads' HO160.out).2.1); rintro e w17 ⟨v166, v169, rfl, ho0, ho1, hb⟩; refine ⟨_, rfl, ?_⟩; have n0_ := Aside0.mk (Kd.R_elder' (by (with_reducible repeat (first | apply Kd.R_alloc | apply Kd.R_drewN | apply Kd.R_drew)); exact HO157.out) (Kd.R_base ho1) hb); have n1_ := Aside0.mk (Kd.R_mono (Kd.R_told (Kd.R_told (Kd.R_old (by (with_reducible repeat (first | apply Kd.R_alloc | apply Kd.R_drewN | apply Kd.R_drew)); exact HO160.out) hb) (Kd.R_base ho0)) (Kd.R_base ho1)) (fun _ h_ => h_.1)); have n2_ := Aside0.mk (Kd.R_lower (Kd.R_new' (Kd.R_new' ho0 (Kd.R_lt (by (with_reducible repeat (first | apply Kd.R_alloc | apply Kd.R_drewN | apply Kd.R_drew)); exact HO157.out))) (Kd.R_lt (by (with_reducible repeat (first | apply Kd.R_alloc | apply Kd.R_drewN | apply Kd.R_drew)); exact HO160.out))) (qAj (by repeat (first | (with_reducible first | exact HB.out | apply qAd | apply qAc | apply qAe) | exact HB.out)))); have n3_ := Aside0.mk (Kd.R_lower (Kd.R_new' ho1 (Kd.R_lt (by (with_reducible repeat (first | apply Kd.R_alloc | apply Kd.R_drewN | apply Kd.R_drew)); exact HO157.out))) (qAj (by repeat (first | (with_reducible first | exact HB.out | apply qAd | apply qAc | apply qAe) | exact HB.out)))); have n4_ := Aside0.mk (qAi (by repeat (first | (with_reducible first | exact HB.out | apply qAd | apply qAc | apply qAe) | exact HB.out)) hb); clear HO157; clear HO160; clear HB; have HO157 := n0_; have HO160 := n1_; have HO167 := n2_; have HO170 := n3_; have HB := n4_; clear n0_ n1_ n2_ n3_ n4_; (try clear hb); (try clear hb2); (try clear hk); (try clear hi); (try clear ho0); (try clear ho1)) | ((with_reducible refine qA3 (N := 1) rfl ?_); refine qA5 ?hg (N := 1) ?hd (cs := #[.int .i64 0, .bool false, .int .i64 0, .string (⟨#[]⟩ : ByteArray), .slice none 0 0, .slice none 0 0]) (t := 25) ?hr ?_; (case hd => rfl); (case hg => rfl); (case hr => first | (go_simp; done) | (go_simp; rfl)); intro gb171 hg w18 hbox hb; have n0_ := Aside0.mk (Kd.R_below (by (with_reducible repeat (first | apply Kd.R_alloc | apply Kd.R_drewN | apply Kd.R_drew)); exact HO157.out) hb); have n1_ := Aside0.mk (Kd.R_below (Kd.R_elderB (by (with_reducible repeat (first | apply Kd.R_alloc | apply Kd.R_drewN | apply Kd.R_drew)); exact HO160.out) gb171 (Nat.le_of_eq hg.symm)) hb); have n2_ := Aside0.mk (Kd.R_below (Kd.R_elderB (by (with_reducible repeat (first | apply Kd.R_alloc | apply Kd.R_drewN | apply Kd.R_drew)); exact HO167.out) gb171 (Nat.le_of_eq hg.symm)) hb); have n3_ := Aside0.mk (Kd.R_below (by (with_reducible repeat (first | apply Kd.R_alloc | apply Kd.R_drewN | apply Kd.R_drew)); exact HO170.out) hb); have n4_ := Aside0.mk (qAi (by repeat (first | (with_reducible first | exact HB.out | apply qAd | apply qAc | apply qAe) | exact HB.out)) hb); have n5_ := Aside0.mk (hbox); have n6_ := Aside0.mk ((by rw [hg]; exact (qAj (by repeat (first | (with_reducible first | exact HB.out | apply qAd | apply qAc | apply qAe) | exact HB.out))) : w.heap.size ≤ gb171)); have n7_ := Aside0.mk ((by rw [hg]; exact (qAj (by repeat (first | (with_reducible first | exact HB.out | apply qAd | apply qAc | apply qAe) | exact HB.out))) : w.heap.size ≤ gb171)); clear HO157; clear HO160; clear HO167; clear HO170; clear HB; have HO157 := n0_; have HO160 := n1_; have HO167 := n2_; have HO170 := n3_; have HB := n4_; have BK171 := n5_; have GW171 := n6_; have GE171 := n7_; clear n0_ n1_ n2_ n3_ n4_ n5_ n6_ n7_; clear hb hbox hg; have hcz19_0 : w18.cell? ⟨gb171, 0, none⟩ = some (.int .i64 0) := (qAa BK171.out 0).trans rfl; have hcz19_1 : w18.cell? ⟨gb171, 1, none⟩ = some (.bool false) := (qAa BK171.out 1).trans rfl; have hcz19_2 : w18.cell? ⟨gb171, 2, none⟩ = some (.int .i64 0) := (qAa BK171.out 2).trans rfl; have hcz19_3 : w18.cell? ⟨gb171, 3, none⟩ = some (.string (⟨#[]⟩ : ByteArray)) := (qAa BK171.out 3).trans rfl; have hcz19_4 : w18.cell? ⟨gb171, 4, none⟩ = some (.slice none 0 0) := (qAa BK171.out 4).trans rfl; have hcz19_5 : w18.cell? ⟨gb171, 5, none⟩ = some (.slice none 0 0) := (qAa BK171.out 5).trans rfl; have hfz19_0 := qAb BK171.out 0; have hfz19_1 := qAb BK171.out 1; have hfz19_2 := qAb BK171.out 2; have hfz19_3 := qAb BK171.out 3; have hfz19_4 := qAb BK171.out 4; have hfz19_5 := qAb BK171.out 5; obtain ⟨Ao20, co20, eo20⟩ := Kd.R_slice HO167.out; subst eo20; obtain ⟨Ao21, co21, eo21⟩ := Kd.R_slice HO170.out; subst eo21) | ((with_reducible refine qAp (f := 16) rfl ?_); refine goesL_ (some 13) rfl rfl Tryd.func16 (by kernel_rfl) rfl #[.agg #[.int .i64 t161, .bool t162, .int .i64 t163, .string t164, .slice Ao20 t165.length co20, .slice Ao21 t168.length co21]] rfl (by (try simp only [List.map_toArray, List.map_cons, List.map_nil]); first | done | rfl | (simp only [List.length_drop, List.length_take]; rfl)) ?_; (with_reducible refine (value_Lay.calls k t161 t162 t163 t164 _ _ t165 _ _ t168 t172 t173 _ ?side1 ?side2 ?side3 ?side4 ?side5 A2.out).mono ?_); (case side1 => exact ⟨Tabs.below hT.out (by repeat (first | (with_reducible first | exact HB.out | apply qAd | apply qAc | apply qAe | refine qAf ?_ GE171.out) | exact HB.out))⟩); (case side2 => refine (Kd.R_reads' (e := 25) (base := w.heap.size) (ok := fun k_ => (((some k_ ≠ (.slice Ao21 t168.length co21 : Value).ownBlock ∧ some k_ ≠ (.slice Ao15 y155.length co15 : Value).ownBlock) ∧ some k_ ≠ (.slice Ao16 y158.length co16 : Value).ownBlock) ∧ k_ ≠ gb171)) (n := t165.length) (c := co20) ?_).2.2; exact (by (with_reducible repeat (first | apply Kd.R_alloc | apply Kd.R_drewN | apply Kd.R_drew)); exact (Kd.R_mono (Kd.R_far (p := ⟨gb171, 5, none⟩) (Kd.R_far (p := ⟨gb171, 4, none⟩) (Kd.R_far (p := ⟨gb171, 3, none⟩) (Kd.R_far (p := ⟨gb171, 2, none⟩) (Kd.R_far (p := ⟨gb171, 1, none⟩) (Kd.R_far (p := ⟨gb171, 0, none⟩) (Kd.R_mono HO167.out (fun k_ hk => (⟨hk, hk.2⟩ : _ ∧ k_ ≠ gb171))) (fun _ hk => hk.2) (.int .i64 t161)) (fun _ hk => hk.2) (.bool t162)) (fun _ hk => hk.2) (.int .i64 t163)) (fun _ hk => hk.2) (.string t164)) (fun _ hk => hk.2) (.slice Ao20 t165.length co20)) (fun _ hk => hk.2) (.slice Ao21 t168.length co21)) (fun _ h_ => h_.1)))); (case side3 => exact (Kd.R_reads' HO167.out).2.1); (case side4 => refine (Kd.R_reads' (e := 9) (base := w.heap.size) (ok := fun k_ => (True ∧ some k_ ≠ (.slice Ao15 y155.length co15 : Value).ownBlock)) (n := t168.length) (c := co21) ?_).2.2; exact (by (with_reducible repeat (first | apply Kd.R_alloc | apply Kd.R_drewN | apply Kd.R_drew)); exact (Kd.R_mono (Kd.R_far (p := ⟨gb171, 5, none⟩) (Kd.R_far (p := ⟨gb171, 4, none⟩) (Kd.R_far (p := ⟨gb171, 3, none⟩) (Kd.R_far (p := ⟨gb171, 2, none⟩) (Kd.R_far (p := ⟨gb171, 1, none⟩) (Kd.R_far (p := ⟨gb171, 0, none⟩) (Kd.R_types HO170.out BK171.out (by decide)) (fun _ hk => hk.2) (.int .i64 t161)) (fun _ hk => hk.2) (.bool t162)) (fun _ hk => hk.2) (.int .i64 t163)) (fun _ hk => hk.2) (.string t164)) (fun _ hk => hk.2) (.slice Ao20 t165.length co20)) (fun _ hk => hk.2) (.slice Ao21 t168.length co21)) (fun _ h_ => h_.1)))); (case side5 => exact (Kd.R_reads' HO170.out).2.1); rintro e w22 ⟨rfl, hb⟩; refine ⟨_, rfl, ?_⟩; have n0_ := Aside0.mk (Kd.R_below (by (with_reducible repeat (first | apply Kd.R_alloc | apply Kd.R_drewN | apply Kd.R_drew)); exact (Kd.R_mono (Kd.R_far (p := ⟨gb171, 5, none⟩) (Kd.R_far (p := ⟨gb171, 4, none⟩) (Kd.R_far (p := ⟨gb171, 3, none⟩) (Kd.R_far (p := ⟨gb171, 2, none⟩) (Kd.R_far (p := ⟨gb171, 1, none⟩) (Kd.R_far (p := ⟨gb171, 0, none⟩) (Kd.R_types HO157.out BK171.out (by decide)) (fun _ hk => hk.2) (.int .i64 t161)) (fun _ hk => hk.2) (.bool t162)) (fun _ hk => hk.2) (.int .i64 t163)) (fun _ hk => hk.2) (.string t164)) (fun _ hk => hk.2) (.slice Ao20 t165.length co20)) (fun _ hk => hk.2) (.slice Ao21 t168.length co21)) (fun _ h_ => h_.1))) hb); have n1_ := Aside0.mk (Kd.R_below (by (with_reducible repeat (first | apply Kd.R_alloc | apply Kd.R_drewN | apply Kd.R_drew)); exact (Kd.R_mono (Kd.R_far (p := ⟨gb171, 5, none⟩) (Kd.R_far (p := ⟨gb171, 4, none⟩) (Kd.R_far (p := ⟨gb171, 3, none⟩) (Kd.R_far (p := ⟨gb171, 2, none⟩) (Kd.R_far (p := ⟨gb171, 1, none⟩) (Kd.R_far (p := ⟨gb171, 0, none⟩) (Kd.R_mono HO160.out (fun k_ hk => (⟨hk, hk.2⟩ : _ ∧ k_ ≠ gb171))) (fun _ hk => hk.2) (.int .i64 t161)) (fun _ hk => hk.2) (.bool t162)) (fun _ hk => hk.2) (.int .i64 t163)) (fun _ hk => hk.2) (.string t164)) (fun _ hk => hk.2) (.slice Ao20 t165.length co20)) (fun _ hk => hk.2) (.slice Ao21 t168.length co21)) (fun _ h_ => h_.1))) hb); have n2_ := Aside0.mk (Kd.R_below (by (with_reducible repeat (first | apply Kd.R_alloc | apply Kd.R_drewN | apply Kd.R_drew)); exact (Kd.R_mono (Kd.R_far (p := ⟨gb171, 5, none⟩) (Kd.R_far (p := ⟨gb171, 4, none⟩) (Kd.R_far (p := ⟨gb171, 3, none⟩) (Kd.R_far (p := ⟨gb171, 2, none⟩) (Kd.R_far (p := ⟨gb171, 1, none⟩) (Kd.R_far (p := ⟨gb171, 0, none⟩) (Kd.R_mono HO167.out (fun k_ hk => (⟨hk, hk.2⟩ : _ ∧ k_ ≠ gb171))) (fun _ hk => hk.2) (.int .i64 t161)) (fun _ hk => hk.2) (.bool t162)) (fun _ hk => hk.2) (.int .i64 t163)) (fun _ hk => hk.2) (.string t164)) (fun _ hk => hk.2) (.slice Ao20 t165.length co20)) (fun _ hk => hk.2) (.slice Ao21 t168.length co21)) (fun _ h_ => h_.1))) hb); have n3_ := Aside0.mk (Kd.R_below (by (with_reducible repeat (first | apply Kd.R_alloc | apply Kd.R_drewN | apply Kd.R_drew)); exact (Kd.R_mono (Kd.R_far (p := ⟨gb171, 5, none⟩) (Kd.R_far (p := ⟨gb171, 4, none⟩) (Kd.R_far (p := ⟨gb171, 3, none⟩) (Kd.R_far (p := ⟨gb171, 2, none⟩) (Kd.R_far (p := ⟨gb171, 1, none⟩) (Kd.R_far (p := ⟨gb171, 0, none⟩) (Kd.R_types HO170.out BK171.out (by decide)) (fun _ hk => hk.2) (.int .i64 t161)) (fun _ hk => hk.2) (.bool t162)) (fun _ hk => hk.2) (.int .i64 t163)) (fun _ hk => hk.2) (.string t164)) (fun _ hk => hk.2) (.slice Ao20 t165.length co20)) (fun _ hk => hk.2) (.slice Ao21 t168.length co21)) (fun _ h_ => h_.1))) hb); have n4_ := Aside0.mk (qAk (g := gb171) (o := .cells #[.int .i64 t161, .bool t162, .int .i64 t163, .string t164, .slice Ao20 t165.length co20, .slice Ao21 t168.length co21] 25 (0, 0)) (by (with_reducible repeat (first | refine qAg ?_ _ | refine qAh ?_ | refine blk_alloc ?_ _)); refine qAv (cs := #[.int .i64 t161, .bool t162, .int .i64 t163, .string t164, .slice Ao20 t165.length co20, .slice none 0 0]) ?_ 5 _ rfl; (with_reducible repeat (first | refine qAg ?_ _ | refine qAh ?_ | refine blk_alloc ?_ _)); refine qAv (cs := #[.int .i64 t161, .bool t162, .int .i64 t163, .string t164, .slice none 0 0, .slice none 0 0]) ?_ 4 _ rfl; (with_reducible repeat (first | refine qAg ?_ _ | refine qAh ?_ | refine blk_alloc ?_ _)); refine qAv (cs := #[.int .i64 t161, .bool t162, .int .i64 t163, .string (⟨#[]⟩ : ByteArray), .slice none 0 0, .slice none 0 0]) ?_ 3 _ rfl; (with_reducible repeat (first | refine qAg ?_ _ | refine qAh ?_ | refine blk_alloc ?_ _)); refine qAv (cs := #[.int .i64 t161, .bool t162, .int .i64 0, .string (⟨#[]⟩ : ByteArray), .slice none 0 0, .slice none 0 0]) ?_ 2 _ rfl; (with_reducible repeat (first | refine qAg ?_ _ | refine qAh ?_ | refine blk_alloc ?_ _)); refine qAv (cs := #[.int .i64 t161, .bool false, .int .i64 0, .string (⟨#[]⟩ : ByteArray), .slice none 0 0, .slice none 0 0]) ?_ 1 _ rfl; (with_reducible repeat (first | refine qAg ?_ _ | refine qAh ?_ | refine blk_alloc ?_ _)); refine qAv (cs := #[.int .i64 0, .bool false, .int .i64 0, .string (⟨#[]⟩ : ByteArray), .slice none 0 0, .slice none 0 0]) ?_ 0 _ rfl; (with_reducible repeat (first | refine qAg ?_ _ | refine qAh ?_ | refine blk_alloc ?_ _)); exact BK171.out) hb); have n5_ := Aside0.mk (qAi (by repeat (first | (with_reducible first | exact HB.out | apply qAd | apply qAc | apply qAe | refine qAf ?_ GE171.out) | exact HB.out)) hb); clear HO157; clear HO160; clear HO167; clear HO170; clear BK171; clear HB; have HO157 := n0_; have HO160 := n1_; have HO167 := n2_; have HO170 := n3_; have BK171 := n4_; have HB := n5_; clear n0_ n1_ n2_ n3_ n4_ n5_; (try clear hb); (try clear hb2); (try clear hk); (try clear hi); have hcz23_0 : w22.cell? ⟨gb171, 0, none⟩ = some (.int .i64 t161) := (qAa BK171.out 0).trans rfl; have hcz23_1 : w22.cell? ⟨gb171, 1, none⟩ = some (.bool t162) := (qAa BK171.out 1).trans rfl; have hcz23_2 : w22.cell? ⟨gb171, 2, none⟩ = some (.int .i64 t163) := (qAa BK171.out 2).trans rfl; have hcz23_3 : w22.cell? ⟨gb171, 3, none⟩ = some (.string t164) := (qAa BK171.out 3).trans rfl; have hcz23_4 : w22.cell? ⟨gb171, 4, none⟩ = some (.slice Ao20 t165.length co20) := (qAa BK171.out 4).trans rfl; have hcz23_5 : w22.cell? ⟨gb171, 5, none⟩ = some (.slice Ao21 t168.length co21) := (qAa BK171.out 5).trans rfl; have hfz23_0 := qAb BK171.out 0; have hfz23_1 := qAb BK171.out 1; have hfz23_2 := qAb BK171.out 2; have hfz23_3 := qAb BK171.out 3; have hfz23_4 := qAb BK171.out 4; have hfz23_5 := qAb BK171.out 5) | ((with_reducible refine qAp (f := 18) rfl ?_); refine goesL_ (some 18) rfl rfl Tryd.func18 (by kernel_rfl) rfl #[.agg #[.int .i64 t161, .bool t162, .int .i64 t163, .string t164, .slice Ao20 t165.length co20, .slice Ao21 t168.length co21], .string (⟨#[98]⟩ : ByteArray)] rfl (by (try simp only [List.map_toArray, List.map_cons, List.map_nil]); first | done | rfl | (simp only [List.length_drop, List.length_take]; rfl)) ?_; (with_reducible refine (value_Get.calls k t161 t162 t163 t164 _ _ t165 _ _ t168 (⟨#[98]⟩ : ByteArray) t174 t175 t176 t177 t178 t181 true _ ?side1 ?side2 ?side3 ?side4 A3.out).mono ?_); (case side1 => repeat (first | exact (Kd.R_reads' HO167.out).2.2 | (with_reducible refine Kd.C_alloc ?_ _) | (with_reducible refine Kd.C_drewN ?_ _) | (with_reducible refine Kd.C_drew ?_))); (case side2 => exact (Kd.R_reads' HO167.out).2.1); (case side3 => repeat (first | exact (Kd.R_reads' HO170.out).2.2 | (with_reducible refine Kd.C_alloc ?_ _) | (with_reducible refine Kd.C_drewN ?_ _) | (with_reducible refine Kd.C_drew ?_))); (case side4 => exact (Kd.R_reads' HO170.out).2.1); rintro e w24 ⟨v179, v182, rfl, ho0, ho1, hb⟩; refine ⟨_, rfl, ?_⟩; have n0_ := Aside0.mk (Kd.R_elder' (by (with_reducible repeat (first | apply Kd.R_alloc | apply Kd.R_drewN | apply Kd.R_drew)); exact HO157.out) (Kd.R_base ho1) hb); have n1_ := Aside0.mk (Kd.R_mono (Kd.R_told (Kd.R_told (Kd.R_old (by (with_reducible repeat (first | apply Kd.R_alloc | apply Kd.R_drewN | apply Kd.R_drew)); exact HO160.out) hb) (Kd.R_base ho0)) (Kd.R_base ho1)) (fun _ h_ => h_.1)); have n2_ := Aside0.mk (Kd.R_mono (Kd.R_told (Kd.R_told (Kd.R_old (by (with_reducible repeat (first | apply Kd.R_alloc | apply Kd.R_drewN | apply Kd.R_drew)); exact HO167.out) hb) (Kd.R_base ho0)) (Kd.R_base ho1)) (fun _ h_ => h_.1)); have n3_ := Aside0.mk (Kd.R_elder' (by (with_reducible repeat (first | apply Kd.R_alloc | apply Kd.R_drewN | apply Kd.R_drew)); exact HO170.out) (Kd.R_base ho1) hb); have n4_ := Aside0.mk (Kd.R_lower (Kd.R_newB (Kd.R_new' (Kd.R_new' (Kd.R_new' (Kd.R_new' ho0 (Kd.R_lt (by (with_reducible repeat (first | apply Kd.R_alloc | apply Kd.R_drewN | apply Kd.R_drew)); exact HO157.out))) (Kd.R_lt (by (with_reducible repeat (first | apply Kd.R_alloc | apply Kd.R_drewN | apply Kd.R_drew)); exact HO160.out))) (Kd.R_lt (by (with_reducible repeat (first | apply Kd.R_alloc | apply Kd.R_drewN | apply Kd.R_drew)); exact HO167.out))) (Kd.R_lt (by (with_reducible repeat (first | apply Kd.R_alloc | apply Kd.R_drewN | apply Kd.R_drew)); exact HO170.out))) (g := gb171) (o := .cells #[.int .i64 t161, .bool t162, .int .i64 t163, .string t164, .slice Ao20 t165.length co20, .slice Ao21 t168.length co21] 25 (0, 0)) (by (with_reducible repeat (first | refine qAg ?_ _ | refine qAh ?_ | refine blk_alloc ?_ _)); exact BK171.out)) (qAj (by repeat (first | (with_reducible first | exact HB.out | apply qAd | apply qAc | apply qAe | refine qAf ?_ GE171.out) | exact HB.out)))); have n5_ := Aside0.mk (Kd.R_lower (Kd.R_new' (Kd.R_new' ho1 (Kd.R_lt (by (with_reducible repeat (first | apply Kd.R_alloc | apply Kd.R_drewN | apply Kd.R_drew)); exact HO157.out))) (Kd.R_lt (by (with_reducible repeat (first | apply Kd.R_alloc | apply Kd.R_drewN | apply Kd.R_drew)); exact HO170.out))) (qAj (by repeat (first | (with_reducible first | exact HB.out | apply qAd | apply qAc | apply qAe | refine qAf ?_ GE171.out) | exact HB.out)))); have n6_ := Aside0.mk (qAk (g := gb171) (o := .cells #[.int .i64 t161, .bool t162, .int .i64 t163, .string t164, .slice Ao20 t165.length co20, .slice Ao21 t168.length co21] 25 (0, 0)) (by (with_reducible repeat (first | refine qAg ?_ _ | refine qAh ?_ | refine blk_alloc ?_ _)); exact BK171.out) hb); have n7_ := Aside0.mk (qAi (by repeat (first | (with_reducible first | exact HB.out | apply qAd | apply qAc | apply qAe | refine qAf ?_ GE171.out) | exact HB.out)) hb); clear HO157; clear HO160; clear HO167; clear HO170; clear BK171; clear HB; have HO157 := n0_; have HO160 := n1_; have HO167 := n2_; have HO170 := n3_; have HO180 := n4_; have HO183 := n5_; have BK171 := n6_; have HB := n7_; clear n0_ n1_ n2_ n3_ n4_ n5_ n6_ n7_; (try clear hb); (try clear hb2); (try clear hk); (try clear hi); (try clear ho0); (try clear ho1)) | ((with_reducible refine qA3 (N := 4) rfl ?_); refine qA5 ?hg (N := 4) ?hd (cs := #[.int .i64 0, .bool false, .int .i64 0, .string (⟨#[]⟩ : ByteArray), .slice none 0 0, .slice none 0 0]) (t := 25) ?hr ?_; (case hd => rfl); (case hg => rfl); (case hr => first | (go_simp; done) | (go_simp; rfl)); intro gb185 hg w25 hbox hb; have n0_ := Aside0.mk (Kd.R_below (by (with_reducible repeat (first | apply Kd.R_alloc | apply Kd.R_drewN | apply Kd.R_drew)); exact HO157.out) hb); have n1_ := Aside0.mk (Kd.R_below (Kd.R_elderB (by (with_reducible repeat (first | apply Kd.R_alloc | apply Kd.R_drewN | apply Kd.R_drew)); exact HO160.out) gb185 (Nat.le_of_eq hg.symm)) hb); have n2_ := Aside0.mk (Kd.R_below (Kd.R_elderB (by (with_reducible repeat (first | apply Kd.R_alloc | apply Kd.R_drewN | apply Kd.R_drew)); exact HO167.out) gb185 (Nat.le_of_eq hg.symm)) hb); have n3_ := Aside0.mk (Kd.R_below (by (with_reducible repeat (first | apply Kd.R_alloc | apply Kd.R_drewN | apply Kd.R_drew)); exact HO170.out) hb); have n4_ := Aside0.mk (Kd.R_below (Kd.R_elderB (by (with_reducible repeat (first | apply Kd.R_alloc | apply Kd.R_drewN | apply Kd.R_drew)); exact HO180.out) gb185 (Nat.le_of_eq hg.symm)) hb); have n5_ := Aside0.mk (Kd.R_below (by (with_reducible repeat (first | apply Kd.R_alloc | apply Kd.R_drewN | apply Kd.R_drew)); exact HO183.out) hb); have n6_ := Aside0.mk (qAk (g := gb171) (o := .cells #[.int .i64 t161, .bool t162, .int .i64 t163, .string t164, .slice Ao20 t165.length co20, .slice Ao21 t168.length co21] 25 (0, 0)) (by (with_reducible repeat (first | refine qAg ?_ _ | refine qAh ?_ | refine blk_alloc ?_ _)); exact BK171.out) hb); have n7_ := Aside0.mk (qAi (by repeat (first | (with_reducible first | exact HB.out | apply qAd | apply qAc | apply qAe | refine qAf ?_ GE171.out) | exact HB.out)) hb); have n8_ := Aside0.mk (hbox); have n9_ := Aside0.mk ((by rw [hg]; exact (qAj (by repeat (first | (with_reducible first | exact HB.out | apply qAd | apply qAc | apply qAe | refine qAf ?_ GE171.out) | exact HB.out))) : w.heap.size ≤ gb185)); have n10_ := Aside0.mk ((by rw [hg]; exact (qAj (by repeat (first | (with_reducible first | exact HB.out | apply qAd | apply qAc | apply qAe | refine qAf ?_ GE171.out) | exact HB.out))) : w.heap.size ≤ gb185)); have n11_ := Aside0.mk ((by rw [hg]; exact Nat.ne_of_lt (blk_lt (g := gb171) (o := .cells #[.int .i64 t161, .bool t162, .int .i64 t163, .string t164, .slice Ao20 t165.length co20, .slice Ao21 t168.length co21] 25 (0, 0)) (by (with_reducible repeat (first | refine qAg ?_ _ | refine qAh ?_ | refine blk_alloc ?_ _)); exact BK171.out)) : gb171 ≠ gb185)); have n12_ := Aside0.mk ((by rw [hg]; exact Nat.ne_of_gt (blk_lt (g := gb171) (o := .cells #[.int .i64 t161, .bool t162, .int .i64 t163, .string t164, .slice Ao20 t165.length co20, .slice Ao21 t168.length co21] 25 (0, 0)) (by (with_reducible repeat (first | refine qAg ?_ _ | refine qAh ?_ | refine blk_alloc ?_ _)); exact BK171.out)) : gb185 ≠ gb171)); clear HO157; clear HO160; clear HO167; clear HO170; clear HO180; clear HO183; clear BK171; clear HB; have HO157 := n0_; have HO160 := n1_; have HO167 := n2_; have HO170 := n3_; have HO180 := n4_; have HO183 := n5_; have BK171 := n6_; have HB := n7_; have BK185 := n8_; have GW185 := n9_; have GE185 := n10_; have NB171_185 := n11_; have NB185_171 := n12_; clear n0_ n1_ n2_ n3_ n4_ n5_ n6_ n7_ n8_ n9_ n10_ n11_ n12_; clear hb hbox hg; have hnb26 := NB185_171.out; have hnc26 := NB171_185.out; have hcz27_0 : w25.cell? ⟨gb185, 0, none⟩ = some (.int .i64 0) := (qAa BK185.out 0).trans rfl; have hcz27_1 : w25.cell? ⟨gb185, 1, none⟩ = some (.bool false) := (qAa BK185.out 1).trans rfl; have hcz27_2 : w25.cell? ⟨gb185, 2, none⟩ = some (.int .i64 0) := (qAa BK185.out 2).trans rfl; have hcz27_3 : w25.cell? ⟨gb185, 3, none⟩ = some (.string (⟨#[]⟩ : ByteArray)) := (qAa BK185.out 3).trans rfl; have hcz27_4 : w25.cell? ⟨gb185, 4, none⟩ = some (.slice none 0 0) := (qAa BK185.out 4).trans rfl; have hcz27_5 : w25.cell? ⟨gb185, 5, none⟩ = some (.slice none 0 0) := (qAa BK185.out 5).trans rfl; have hfz27_0 := qAb BK185.out 0; have hfz27_1 := qAb BK185.out 1; have hfz27_2 := qAb BK185.out 2; have hfz27_3 := qAb BK185.out 3; have hfz27_4 := qAb BK185.out 4; have hfz27_5 := qAb BK185.out 5; obtain ⟨Ao28, co28, eo28⟩ := Kd.R_slice HO180.out; subst eo28; obtain ⟨Ao29, co29, eo29⟩ := Kd.R_slice HO183.out; subst eo29; have hcz30_0 : w25.cell? ⟨gb171, 0, none⟩ = some (.int .i64 t161) := (qAa BK171.out 0).trans rfl; have hcz30_1 : w25.cell? ⟨gb171, 1, none⟩ = some (.bool t162) := (qAa BK171.out 1).trans rfl; have hcz30_2 : w25.cell? ⟨gb171, 2, none⟩ = some (.int .i64 t163) := (qAa BK171.out 2).trans rfl; have hcz30_3 : w25.cell? ⟨gb171, 3, none⟩ = some (.string t164) := (qAa BK171.out 3).trans rfl; have hcz30_4 : w25.cell? ⟨gb171, 4, none⟩ = some (.slice Ao20 t165.length co20) := (qAa BK171.out 4).trans rfl; have hcz30_5 : w25.cell? ⟨gb171, 5, none⟩ = some (.slice Ao21 t168.length co21) := (qAa BK171.out 5).trans rfl; have hfz30_0 := qAb BK171.out 0; have hfz30_1 := qAb BK171.out 1; have hfz30_2 := qAb BK171.out 2; have hfz30_3 := qAb BK171.out 3; have hfz30_4 := qAb BK171.out 4; have hfz30_5 := qAb BK171.out 5) | (go_at_call 21; (with_reducible refine (value_May.calls t161 t162 t163 t164 _ _ t165 _ _ t168 true _ ?side1 ?side2 ?side3 ?side4 A8.out).mono ?_); (case side1 => refine (Kd.R_reads' (e := 25) (base := w.heap.size) (ok := fun k_ => ((((((some k_ ≠ (.slice Ao21 t168.length co21 : Value).ownBlock ∧ some k_ ≠ (.slice Ao15 y155.length co15 : Value).ownBlock) ∧ some k_ ≠ (.slice Ao16 y158.length co16 : Value).ownBlock) ∧ k_ ≠ gb171) ∧ some k_ ≠ (.slice Ao28 t178.length co28 : Value).ownBlock) ∧ some k_ ≠ (.slice Ao29 t181.length co29 : Value).ownBlock) ∧ k_ ≠ gb185)) (n := t165.length) (c := co20) ?_).2.2; exact (by (with_reducible repeat (first | apply Kd.R_alloc | apply Kd.R_drewN | apply Kd.R_drew)); exact (Kd.R_mono (Kd.R_far (p := ⟨gb185, 5, none⟩) (Kd.R_far (p := ⟨gb185, 4, none⟩) (Kd.R_far (p := ⟨gb185, 3, none⟩) (Kd.R_far (p := ⟨gb185, 2, none⟩) (Kd.R_far (p := ⟨gb185, 1, none⟩) (Kd.R_far (p := ⟨gb185, 0, none⟩) (Kd.R_mono HO167.out (fun k_ hk => (⟨hk, hk.2⟩ : _ ∧ k_ ≠ gb185))) (fun _ hk => hk.2) (.int .i64 t174)) (fun _ hk => hk.2) (.bool t175)) (fun _ hk => hk.2) (.int .i64 t176)) (fun _ hk => hk.2) (.string t177)) (fun _ hk => hk.2) (.slice Ao28 t178.length co28)) (fun _ hk => hk.2) (.slice Ao29 t181.length co29)) (fun _ h_ => h_.1)))); (case side2 => exact (Kd.R_reads' HO167.out).2.1); (case side3 => refine (Kd.R_reads' (e := 9) (base := w.heap.size) (ok := fun k_ => ((True ∧ some k_ ≠ (.slice Ao15 y155.length co15 : Value).ownBlock) ∧ some k_ ≠ (.slice Ao29 t181.length co29 : Value).ownBlock)) (n := t168.length) (c := co21) ?_).2.2; exact (by (with_reducible repeat (first | apply Kd.R_alloc | apply Kd.R_drewN | apply Kd.R_drew)); exact (Kd.R_mono (Kd.R_far (p := ⟨gb185, 5, none⟩) (Kd.R_far (p := ⟨gb185, 4, none⟩) (Kd.R_far (p := ⟨gb185, 3, none⟩) (Kd.R_far (p := ⟨gb185, 2, none⟩) (Kd.R_far (p := ⟨gb185, 1, none⟩) (Kd.R_far (p := ⟨gb185, 0, none⟩) (Kd.R_types HO170.out BK185.out (by decide)) (fun _ hk => hk.2) (.int .i64 t174)) (fun _ hk => hk.2) (.bool t175)) (fun _ hk => hk.2) (.int .i64 t176)) (fun _ hk => hk.2) (.string t177)) (fun _ hk => hk.2) (.slice Ao28 t178.length co28)) (fun _ hk => hk.2) (.slice Ao29 t181.length co29)) (fun _ h_ => h_.1)))); (case side4 => exact (Kd.R_reads' HO170.out).2.1); rintro e w31 ⟨rfl, hb⟩; have n0_ := Aside0.mk (Kd.R_below (by (with_reducible repeat (first | apply Kd.R_alloc | apply Kd.R_drewN | apply Kd.R_drew)); exact (Kd.R_mono (Kd.R_far (p := ⟨gb185, 5, none⟩) (Kd.R_far (p := ⟨gb185, 4, none⟩) (Kd.R_far (p := ⟨gb185, 3, none⟩) (Kd.R_far (p := ⟨gb185, 2, none⟩) (Kd.R_far (p := ⟨gb185, 1, none⟩) (Kd.R_far (p := ⟨gb185, 0, none⟩) (Kd.R_types HO157.out BK185.out (by decide)) (fun _ hk => hk.2) (.int .i64 t174)) (fun _ hk => hk.2) (.bool t175)) (fun _ hk => hk.2) (.int .i64 t176)) (fun _ hk => hk.2) (.string t177)) (fun _ hk => hk.2) (.slice Ao28 t178.length co28)) (fun _ hk => hk.2) (.slice Ao29 t181.length co29)) (fun _ h_ => h_.1))) hb); have n1_ := Aside0.mk (Kd.R_below (by (with_reducible repeat (first | apply Kd.R_alloc | apply Kd.R_drewN | apply Kd.R_drew)); exact (Kd.R_mono (Kd.R_far (p := ⟨gb185, 5, none⟩) (Kd.R_far (p := ⟨gb185, 4, none⟩) (Kd.R_far (p := ⟨gb185, 3, none⟩) (Kd.R_far (p := ⟨gb185, 2, none⟩) (Kd.R_far (p := ⟨gb185, 1, none⟩) (Kd.R_far (p := ⟨gb185, 0, none⟩) (Kd.R_mono HO160.out (fun k_ hk => (⟨hk, hk.2⟩ : _ ∧ k_ ≠ gb185))) (fun _ hk => hk.2) (.int .i64 t174)) (fun _ hk => hk.2) (.bool t175)) (fun _ hk => hk.2) (.int .i64 t176)) (fun _ hk => hk.2) (.string t177)) (fun _ hk => hk.2) (.slice Ao28 t178.length co28)) (fun _ hk => hk.2) (.slice Ao29 t181.length co29)) (fun _ h_ => h_.1))) hb); have n2_ := Aside0.mk (Kd.R_below (by (with_reducible repeat (first | apply Kd.R_alloc | apply Kd.R_drewN | apply Kd.R_drew)); exact (Kd.R_mono (Kd.R_far (p := ⟨gb185, 5, none⟩) (Kd.R_far (p := ⟨gb185, 4, none⟩) (Kd.R_far (p := ⟨gb185, 3, none⟩) (Kd.R_far (p := ⟨gb185, 2, none⟩) (Kd.R_far (p := ⟨gb185, 1, none⟩) (Kd.R_far (p := ⟨gb185, 0, none⟩) (Kd.R_mono HO167.out (fun k_ hk => (⟨hk, hk.2⟩ : _ ∧ k_ ≠ gb185))) (fun _ hk => hk.2) (.int .i64 t174)) (fun _ hk => hk.2) (.bool t175)) (fun _ hk => hk.2) (.int .i64 t176)) (fun _ hk => hk.2) (.string t177)) (fun _ hk => hk.2) (.slice Ao28 t178.length co28)) (fun _ hk => hk.2) (.slice Ao29 t181.length co29)) (fun _ h_ => h_.1))) hb); have n3_ := Aside0.mk (Kd.R_below (by (with_reducible repeat (first | apply Kd.R_alloc | apply Kd.R_drewN | apply Kd.R_drew)); exact (Kd.R_mono (Kd.R_far (p := ⟨gb185, 5, none⟩) (Kd.R_far (p := ⟨gb185, 4, none⟩) (Kd.R_far (p := ⟨gb185, 3, none⟩) (Kd.R_far (p := ⟨gb185, 2, none⟩) (Kd.R_far (p := ⟨gb185, 1, none⟩) (Kd.R_far (p := ⟨gb185, 0, none⟩) (Kd.R_types HO170.out BK185.out (by decide)) (fun _ hk => hk.2) (.int .i64 t174)) (fun _ hk => hk.2) (.bool t175)) (fun _ hk => hk.2) (.int .i64 t176)) (fun _ hk => hk.2) (.string t177)) (fun _ hk => hk.2) (.slice Ao28 t178.length co28)) (fun _ hk => hk.2) (.slice Ao29 t181.length co29)) (fun _ h_ => h_.1))) hb); have n4_ := Aside0.mk (Kd.R_below (by (with_reducible repeat (first | apply Kd.R_alloc | apply Kd.R_drewN | apply Kd.R_drew)); exact (Kd.R_mono (Kd.R_far (p := ⟨gb185, 5, none⟩) (Kd.R_far (p := ⟨gb185, 4, none⟩) (Kd.R_far (p := ⟨gb185, 3, none⟩) (Kd.R_far (p := ⟨gb185, 2, none⟩) (Kd.R_far (p := ⟨gb185, 1, none⟩) (Kd.R_far (p := ⟨gb185, 0, none⟩) (Kd.R_mono HO180.out (fun k_ hk => (⟨hk, hk.2⟩ : _ ∧ k_ ≠ gb185))) (fun _ hk => hk.2) (.int .i64 t174)) (fun _ hk => hk.2) (.bool t175)) (fun _ hk => hk.2) (.int .i64 t176)) (fun _ hk => hk.2) (.string t177)) (fun _ hk => hk.2) (.slice Ao28 t178.length co28)) (fun _ hk => hk.2) (.slice Ao29 t181.length co29)) (fun _ h_ => h_.1))) hb); have n5_ := Aside0.mk (Kd.R_below (by (with_reducible repeat (first | apply Kd.R_alloc | apply Kd.R_drewN | apply Kd.R_drew)); exact (Kd.R_mono (Kd.R_far (p := ⟨gb185, 5, none⟩) (Kd.R_far (p := ⟨gb185, 4, none⟩) (Kd.R_far (p := ⟨gb185, 3, none⟩) (Kd.R_far (p := ⟨gb185, 2, none⟩) (Kd.R_far (p := ⟨gb185, 1, none⟩) (Kd.R_far (p := ⟨gb185, 0, none⟩) (Kd.R_types HO183.out BK185.out (by decide)) (fun _ hk => hk.2) (.int .i64 t174)) (fun _ hk => hk.2) (.bool t175)) (fun _ hk => hk.2) (.int .i64 t176)) (fun _ hk => hk.2) (.string t177)) (fun _ hk => hk.2) (.slice Ao28 t178.length co28)) (fun _ hk => hk.2) (.slice Ao29 t181.length co29)) (fun _ h_ => h_.1))) hb); have n6_ := Aside0.mk (qAk (g := gb171) (o := .cells #[.int .i64 t161, .bool t162, .int .i64 t163, .string t164, .slice Ao20 t165.length co20, .slice Ao21 t168.length co21] 25 (0, 0)) (by (with_reducible repeat (first | refine qAg ?_ _ | refine qAh ?_ | refine blk_alloc ?_ _)); refine qA2 ?_ NB171_185.out _; (with_reducible repeat (first | refine qAg ?_ _ | refine qAh ?_ | refine blk_alloc ?_ _)); refine qA2 ?_ NB171_185.out _; (with_reducible repeat (first | refine qAg ?_ _ | refine qAh ?_ | refine blk_alloc ?_ _)); refine qA2 ?_ NB171_185.out _; (with_reducible repeat (first | refine qAg ?_ _ | refine qAh ?_ | refine blk_alloc ?_ _)); refine qA2 ?_ NB171_185.out _; (with_reducible repeat (first | refine qAg ?_ _ | refine qAh ?_ | refine blk_alloc ?_ _)); refine qA2 ?_ NB171_185.out _; (with_reducible repeat (first | refine qAg ?_ _ | refine qAh ?_ | refine blk_alloc ?_ _)); refine qA2 ?_ NB171_185.out _; (with_reducible repeat (first | refine qAg ?_ _ | refine qAh ?_ | refine blk_alloc ?_ _)); exact BK171.out) hb); have n7_ := Aside0.mk (qAk (g := gb185) (o := .cells #[.int .i64 t174, .bool t175, .int .i64 t176, .string t177, .slice Ao28 t178.length co28, .slice Ao29 t181.length co29] 25 (0, 0)) (by (with_reducible repeat (first | refine qAg ?_ _ | refine qAh ?_ | refine blk_alloc ?_ _)); refine qAv (cs := #[.int .i64 t174, .bool t175, .int .i64 t176, .string t177, .slice Ao28 t178.length co28, .slice none 0 0]) ?_ 5 _ rfl; (with_reducible repeat (first | refine qAg ?_ _ | refine qAh ?_ | refine blk_alloc ?_ _)); refine qAv (cs := #[.int .i64 t174, .bool t175, .int .i64 t176, .string t177, .slice none 0 0, .slice none 0 0]) ?_ 4 _ rfl; (with_reducible repeat (first | refine qAg ?_ _ | refine qAh ?_ | refine blk_alloc ?_ _)); refine qAv (cs := #[.int .i64 t174, .bool t175, .int .i64 t176, .string (⟨#[]⟩ : ByteArray), .slice none 0 0, .slice none 0 0]) ?_ 3 _ rfl; (with_reducible repeat (first | refine qAg ?_ _ | refine qAh ?_ | refine blk_alloc ?_ _)); refine qAv (cs := #[.int .i64 t174, .bool t175, .int .i64 0, .string (⟨#[]⟩ : ByteArray), .slice none 0 0, .slice none 0 0]) ?_ 2 _ rfl; (with_reducible repeat (first | refine qAg ?_ _ | refine qAh ?_ | refine blk_alloc ?_ _)); refine qAv (cs := #[.int .i64 t174, .bool false, .int .i64 0, .string (⟨#[]⟩ : ByteArray), .slice none 0 0, .slice none 0 0]) ?_ 1 _ rfl; (with_reducible repeat (first | refine qAg ?_ _ | refine qAh ?_ | refine blk_alloc ?_ _)); refine qAv (cs := #[.int .i64 0, .bool false, .int .i64 0, .string (⟨#[]⟩ : ByteArray), .slice none 0 0, .slice none 0 0]) ?_ 0 _ rfl; (with_reducible repeat (first | refine qAg ?_ _ | refine qAh ?_ | refine blk_alloc ?_ _)); exact BK185.out) hb); have n8_ := Aside0.mk (qAi (by repeat (first | (with_reducible first | exact HB.out | apply qAd | apply qAc | apply qAe | refine qAf ?_ GE171.out | refine qAf ?_ GE185.out) | exact HB.out)) hb); clear HO157; clear HO160; clear HO167; clear HO170; clear HO180; clear HO183; clear BK171; clear BK185; clear HB; have HO157 := n0_; have HO160 := n1_; have HO167 := n2_; have HO170 := n3_; have HO180 := n4_; have HO183 := n5_; have BK171 := n6_; have BK185 := n7_; have HB := n8_; clear n0_ n1_ n2_ n3_ n4_ n5_ n6_ n7_ n8_; (try clear hb); (try clear hb2); (try clear hk); (try clear hi); have hcz32_0 : w31.cell? ⟨gb171, 0, none⟩ = some (.int .i64 t161) := (qAa BK171.out 0).trans rfl; have hcz32_1 : w31.cell? ⟨gb171, 1, none⟩ = some (.bool t162) := (qAa BK171.out 1).trans rfl; have hcz32_2 : w31.cell? ⟨gb171, 2, none⟩ = some (.int .i64 t163) := (qAa BK171.out 2).trans rfl; have hcz32_3 : w31.cell? ⟨gb171, 3, none⟩ = some (.string t164) := (qAa BK171.out 3).trans rfl; have hcz32_4 : w31.cell? ⟨gb171, 4, none⟩ = some (.slice Ao20 t165.length co20) := (qAa BK171.out 4).trans rfl; have hcz32_5 : w31.cell? ⟨gb171, 5, none⟩ = some (.slice Ao21 t168.length co21) := (qAa BK171.out 5).trans rfl; have hfz32_0 := qAb BK171.out 0; have hfz32_1 := qAb BK171.out 1; have hfz32_2 := qAb BK171.out 2; have hfz32_3 := qAb BK171.out 3; have hfz32_4 := qAb BK171.out 4; have hfz32_5 := qAb BK171.out 5) | (go_at_call 23; (with_reducible refine (value_Same.calls t161 t162 t163 t164 _ _ t165 _ _ t168 t161 t162 t163 t164 _ _ t165 _ _ t168 t187 _ ?side1 ?side2 ?side3 ?side4 ?side5 ?side6 ?side7 ?side8 A10.out).mono ?_); (case side1 => repeat (first | exact (Kd.R_reads' HO167.out).2.2 | (with_reducible refine Kd.C_alloc ?_ _) | (with_reducible refine Kd.C_drewN ?_ _) | (with_reducible refine Kd.C_drew ?_))); (case side2 => exact (Kd.R_reads' HO167.out).2.1); (case side3 => repeat (first | exact (Kd.R_reads' HO170.out).2.2 | (with_reducible refine Kd.C_alloc ?_ _) | (with_reducible refine Kd.C_drewN ?_ _) | (with_reducible refine Kd.C_drew ?_))); (case side4 => exact (Kd.R_reads' HO170.out).2.1); (case side5 => repeat (first | exact (Kd.R_reads' HO167.out).2.2 | (with_reducible refine Kd.C_alloc ?_ _) | (with_reducible refine Kd.C_drewN ?_ _) | (with_reducible refine Kd.C_drew ?_))); (case side6 => exact (Kd.R_reads' HO167.out).2.1); (case side7 => repeat (first | exact (Kd.R_reads' HO170.out).2.2 | (with_reducible refine Kd.C_alloc ?_ _) | (with_reducible refine Kd.C_drewN ?_ _) | (with_reducible refine Kd.C_drew ?_))); (case side8 => exact (Kd.R_reads' HO170.out).2.1); rintro e w33 ⟨rfl, hb⟩; have n0_ := Aside0.mk (Kd.R_below (by (with_reducible repeat (first | apply Kd.R_alloc | apply Kd.R_drewN | apply Kd.R_drew)); exact HO157.out) hb); have n1_ := Aside0.mk (Kd.R_below (by (with_reducible repeat (first | apply Kd.R_alloc | apply Kd.R_drewN | apply Kd.R_drew)); exact HO160.out) hb); have n2_ := Aside0.mk (Kd.R_below (by (with_reducible repeat (first | apply Kd.R_alloc | apply Kd.R_drewN | apply Kd.R_drew)); exact HO167.out) hb); have n3_ := Aside0.mk (Kd.R_below (by (with_reducible repeat (first | apply Kd.R_alloc | apply Kd.R_drewN | apply Kd.R_drew)); exact HO170.out) hb); have n4_ := Aside0.mk (Kd.R_below (by (with_reducible repeat (first | apply Kd.R_alloc | apply Kd.R_drewN | apply Kd.R_drew)); exact HO180.out) hb); have n5_ := Aside0.mk (Kd.R_below (by (with_reducible repeat (first | apply Kd.R_alloc | apply Kd.R_drewN | apply Kd.R_drew)); exact HO183.out) hb); have n6_ := Aside0.mk (qAk (g := gb171) (o := .cells #[.int .i64 t161, .bool t162, .int .i64 t163, .string t164, .slice Ao20 t165.length co20, .slice Ao21 t168.length co21] 25 (0, 0)) (by (with_reducible repeat (first | refine qAg ?_ _ | refine qAh ?_ | refine blk_alloc ?_ _)); exact BK171.out) hb); have n7_ := Aside0.mk (qAk (g := gb185) (o := .cells #[.int .i64 t174, .bool t175, .int .i64 t176, .string t177, .slice Ao28 t178.length co28, .slice Ao29 t181.length co29] 25 (0, 0)) (by (with_reducible repeat (first | refine qAg ?_ _ | refine qAh ?_ | refine blk_alloc ?_ _)); exact BK185.out) hb); have n8_ := Aside0.mk (qAi (by repeat (first | (with_reducible first | exact HB.out | apply qAd | apply qAc | apply qAe | refine qAf ?_ GE171.out | refine qAf ?_ GE185.out) | exact HB.out)) hb); clear HO157; clear HO160; clear HO167; clear HO170; clear HO180; clear HO183; clear BK171; clear BK185; clear HB; have HO157 := n0_; have HO160 := n1_; have HO167 := n2_; have HO170 := n3_; have HO180 := n4_; have HO183 := n5_; have BK171 := n6_; have BK185 := n7_; have HB := n8_; clear n0_ n1_ n2_ n3_ n4_ n5_ n6_ n7_ n8_; (try clear hb); (try clear hb2); (try clear hk); (try clear hi)))
      go_ret
      exact ⟨by first | rfl | (simp [qAm, qAl] <;> rfl) | (simp [*, qAm, qAl] <;> rfl), by repeat (first | (with_reducible first | exact HB.out | apply qAd | apply qAc | apply qAe | refine qAf ?_ GE171.out | refine qAf ?_ GE185.out) | exact HB.out)⟩
     ·replace c9 := Bool.eq_false_iff.mpr c9
      subst c9
      have H1 : (some false) = some r := by rw [if_neg (show ¬ (false = true) by decide)] at H; exact H
      clear H
      have H := H1
      clear H1
      exact absurd (H.trans (congrArg some hr_.out)) (by simp)
    ·replace c7 := Bool.eq_false_iff.mpr c7
     subst c7
     have H1 : (some false) = some r := by rw [if_neg (show ¬ (false = true) by decide)] at H; exact H
     clear H
     have H := H1
     clear H1
     exact absurd (H.trans (congrArg some hr_.out)) (by simp)
   ·rw [if_neg c6] at H
    have c6b0 : (t176 == 1) = false := beq_eq_false_iff_ne.mpr c6
    have c6b1 : (t176 != 1) = true := bne_iff_ne.mpr c6
    exact absurd (H.trans (congrArg some hr_.out)) (by simp)
  ·rw [if_neg c5] at H
   have c5b0 : (t173 == 0) = false := beq_eq_false_iff_ne.mpr c5
   have c5b1 : (t173 != 0) = true := bne_iff_ne.mpr c5
   exact absurd (H.trans (congrArg some hr_.out)) (by simp)
 ·rw [if_neg c4] at H
  have c4b0 : (t172.toList == ([123, 34, 97, 34, 58, 116, 114, 117, 101, 44, 34, 98, 34, 58, 49, 125] : List UInt8)) = false := beq_eq_false_iff_ne.mpr c4
  have c4b1 : (t172.toList != ([123, 34, 97, 34, 58, 116, 114, 117, 101, 44, 34, 98, 34, 58, 49, 125] : List UInt8)) = true := bne_iff_ne.mpr c4
  exact absurd (H.trans (congrArg some hr_.out)) (by simp)
end Go.Proofs.YtbnoihpooeombaaDoor.P

namespace Go.Proofs.YtbnoihpooeombaaDoor.X
open Go.RowKit Go.Proofs.YtbnoihpooeombaaDoorW.PrintWords Go.Proofs.YtbnoihpooeombaaDoor.P
set_option linter.unusedVariables false
set_option linter.unusedSimpArgs false
def ofP : List ByteArray → List S25 → List ByteArray → List S25 → List ByteArray × List S25
  | key :: ks, v :: vs, K, V => if isK K key = true then ofP ks vs K V else ofP ks vs (K.take (posK K key) ++ key :: K.drop (posK K key)) (V.take (posK K key) ++ v :: V.drop (posK K key))
  | _, _, K, V => (K, V)
theorem qBs : ∀ (K : List ByteArray) (key : ByteArray), qAx K = true → isK K key = false → qAx (K.take (posK K key) ++ key :: K.drop (posK K key)) = true
  | [], key, _, _ => rfl
  | a :: K, key, hr, hi => by
    obtain ⟨h1, h2⟩ := qBc hr
    by_cases c : lessB a key = true
    · have hp : posK (a :: K) key = posK K key + 1 := by unfold posK; rw [List.takeWhile_cons_of_pos (p := fun s => lessB s key) c, List.length_cons]
      have hi2 : isK K key = false := by
        cases e : isK K key with
        | false => rfl
        | true =>
          have := (qCl K key h1).1 e
          rw [(qCl (a :: K) key hr).2 (List.mem_cons_of_mem _ this)] at hi
          cases hi
      rw [hp, List.take_succ_cons, List.drop_succ_cons, List.cons_append]
      refine qEj (qBs K key h1 hi2) (fun s hs => ?_)
      rcases List.mem_append.1 hs with hs | hs
      · exact h2 s (List.mem_of_mem_take hs)
      · rcases List.mem_cons.1 hs with rfl | hs
        · exact c
        · exact h2 s (List.mem_of_mem_drop hs)
    · have hp : posK (a :: K) key = 0 := by unfold posK; rw [List.takeWhile_cons_of_neg (p := fun s => lessB s key) c]; rfl
      rw [hp, List.take_zero, List.drop_zero, List.nil_append]
      have hne : a ≠ key := fun e => by
        rw [(qCl (a :: K) key hr).2 (e ▸ List.mem_cons_self ..)] at hi; cases hi
      have hka : lessB key a = true := by
        cases e : lessB key a with
        | true => rfl
        | false => exact absurd (qF8 (eq_false_of_ne_true c) e) hne
      refine qEj hr (fun s hs => ?_)
      rcases List.mem_cons.1 hs with rfl | hs
      · exact hka
      · exact qCh hka (h2 s hs)
theorem qE4 : ∀ (ks : List ByteArray) (vs : List S25) (K : List ByteArray) (V : List S25), qAx K = true → K.length + ks.length ≤ 200000 → Ev (fun k => ofL k ks vs K V) (ofP ks vs K V)
  | [], vs, K, V, _, _ => by
    cases vs <;> exact Ev.now _
  | _ :: _, [], K, V, _, _ => Ev.now _
  | key :: ks, v :: vs, K, V, hr, hn => by
    obtain ⟨K1, h1⟩ := qEg K key hr (by omega)
    rw [List.length_cons] at hn
    cases hi : isK K key with
    | true =>
      obtain ⟨K2, h2⟩ := qE4 ks vs K V hr (by omega)
      refine ⟨K1 + K2, fun k hk => ?_⟩
      have h1 := h1 k (by omega)
      have h2 := h2 k (by omega)
      simp only at h1 h2
      show ofL k _ _ _ _ = _
      rw [ofL, h1, ofP, if_pos hi]
      simp only [Option.bind_some]
      rw [if_pos hi]
      exact h2
    | false =>
      obtain ⟨K2, h2⟩ := qE4 ks vs (K.take (posK K key) ++ key :: K.drop (posK K key)) (V.take (posK K key) ++ v :: V.drop (posK K key)) (qBs K key hr hi) (by
        simp only [List.length_append, List.length_cons, List.length_take, List.length_drop]; omega)
      refine ⟨K1 + K2, fun k hk => ?_⟩
      have h1 := h1 k (by omega)
      have h2 := h2 k (by omega)
      simp only at h1 h2
      have hp := qD3 K key
      show ofL k _ _ _ _ = _
      rw [ofL, h1, ofP, if_neg (by rw [hi]; decide)]
      simp only [Option.bind_some]
      rw [if_neg (by rw [hi]; decide), if_pos ⟨by omega, by omega⟩]
      exact h2
theorem of_val (ks : List ByteArray) (vs : List S25) (hn : ks.length ≤ 100000) : Ev (fun k => value_Of.f k ks vs) (ofR (ofP ks vs [] []).1 (ofP ks vs [] []).2) := by
  obtain ⟨K, hK⟩ := qE4 ks vs [] [] rfl (by simp; omega)
  refine ⟨K, fun k hk => ?_⟩
  have hK := hK k hk
  simp only at hK
  show value_Of.f k ks vs = _
  unfold value_Of.f
  rw [if_pos hn, hK]
  rfl
def awV : S25 := ⟨5, false, 0, ⟨#[]⟩, [⟨1, true, 0, ⟨#[]⟩, [], []⟩, ⟨2, false, 1, ⟨#[]⟩, [], []⟩], [⟨#[97]⟩, ⟨#[98]⟩]⟩
theorem qHr : ofP [⟨#[98]⟩, ⟨#[97]⟩] [⟨2, false, 1, ⟨#[]⟩, [], []⟩, ⟨1, true, 0, ⟨#[]⟩, [], []⟩] [] [] = ([⟨#[97]⟩, ⟨#[98]⟩], [⟨1, true, 0, ⟨#[]⟩, [], []⟩, ⟨2, false, 1, ⟨#[]⟩, [], []⟩]) := by
  simp [ofP, isK, posK, lessB, ByteArray.toList_eq, Op.bytesLess]
theorem awT : T 2 4000 awV := by
  refine ⟨⟨by decide, by decide, ?_, ?_⟩, by decide⟩
  · intro s hs
    simp only [awV, List.mem_cons, List.not_mem_nil, or_false] at hs
    rcases hs with rfl | rfl <;> decide
  · intro y hy
    simp only [awV, List.mem_cons, List.not_mem_nil, or_false] at hy
    rcases hy with rfl | rfl <;> (refine ⟨by decide, by decide, ?_, ?_⟩ <;> (intro s hs; cases hs))
theorem awGood : goodV 16 awV = true := by
  simp [goodV, awV, qA9, qAx, ByteArray.toList_eq, Op.bytesLess]
  rfl
theorem awText : (textB 16 awV).toList = [123, 34, 97, 34, 58, 116, 114, 117, 101, 44, 34, 98, 34, 58, 49, 125] := by
  have h : textI 16 awV = [123, 34, 97, 34, 58, 116, 114, 117, 101, 44, 34, 98, 34, 58, 49, 125] := by
    have h1 : itoaB 1 = ⟨#[49]⟩ := by
      unfold itoaB Lib.itoa
      rw [if_neg (by decide), Lib.decDigits_one (by decide)]
      rfl
    rw [text_5 15 awV rfl]
    simp only [awV, qAz]
    rw [text_1 14 _ rfl, text_2 14 _ rfl]
    simp only [h1, if_true]
    rfl
  rw [textB, h, ByteArray.toList_eq]
  rfl
theorem qC5 : Ev (fun k => hogsheadlaw15_awake.f k) true := by
  obtain ⟨K1, h1⟩ := of_val [⟨#[98]⟩, ⟨#[97]⟩] [⟨2, false, 1, ⟨#[]⟩, [], []⟩, ⟨1, true, 0, ⟨#[]⟩, [], []⟩] (by simp)
  obtain ⟨K2, h2⟩ := qH0 awT
  obtain ⟨K3, h3⟩ := qG3 ⟨#[98]⟩ awT
  rw [qHr] at h1
  have hr : ofR [⟨#[97]⟩, ⟨#[98]⟩] [⟨1, true, 0, ⟨#[]⟩, [], []⟩, ⟨2, false, 1, ⟨#[]⟩, [], []⟩] = (5, false, 0, ⟨#[]⟩, [⟨1, true, 0, ⟨#[]⟩, [], []⟩, ⟨2, false, 1, ⟨#[]⟩, [], []⟩], [⟨#[97]⟩, ⟨#[98]⟩]) := by
    have h : (mayV 16 ⟨5, false, 0, ByteArray.empty, [⟨1, true, 0, ⟨#[]⟩, [], []⟩, ⟨2, false, 1, ⟨#[]⟩, [], []⟩], [⟨#[97]⟩, ⟨#[98]⟩]⟩ 0).2 = true := (qB8 2 awV awT).trans awGood
    unfold ofR
    rw [if_pos h]
    rfl
  refine ⟨K1 + K2 + K3, fun k hk => ?_⟩
  have h1 := h1 k (by omega)
  have h2 := h2 k (by omega)
  have h3 := h3 k (by omega)
  simp only at h1 h2 h3
  rw [hr] at h1
  rw [if_pos awGood] at h2
  have hget : getV awV ⟨#[98]⟩ = some ⟨2, false, 1, ⟨#[]⟩, [], []⟩ := by
    unfold getV
    rw [if_pos ⟨rfl, awGood, by simp [awV, isK, posK, lessB, ByteArray.toList_eq, Op.bytesLess]⟩]
    simp [awV, posK, lessB, ByteArray.toList_eq, Op.bytesLess]
  rw [hget] at h3
  have h4 := qD6 awT
  have h5 := qFn awT awT
  have h6 : sameB awV awV = true := by
    unfold sameB
    rw [awGood, (qDc 16 awV awV awGood).2 rfl]
    rfl
  rw [awGood] at h4
  rw [h6] at h5
  show hogsheadlaw15_awake.f k = _
  unfold hogsheadlaw15_awake.f
  rw [h1]
  simp only [Option.bind_some]
  simp only [awV] at h2 h3 h4 h5
  rw [h2]
  simp only [Option.bind_some]
  rw [h3]
  simp only [Option.bind_some]
  have ht := awText
  simp only [awV] at ht
  rw [if_pos ht, if_pos trivial]
  simp only [tup, Option.getD_some, Option.isSome_some]
  rw [if_pos trivial, if_pos trivial, h4]
  simp only [Option.bind_some]
  rw [if_pos trivial, h5]
  rfl
theorem qEy {k : Nat} {r : Bool} (h : hogsheadlaw15_awake.f k = some r) : r = true := by
  obtain ⟨K, hK⟩ := qC5
  have h1 := hK (k + K) (by omega)
  have h2 := qHc (g := fun k => hogsheadlaw15_awake.f k) (fun k => hogsheadlaw15_awake.mono k) (show k ≤ k + K by omega) h
  simp only at h1 h2
  rw [h1] at h2
  exact (Option.some.inj h2).symm
theorem hogsheadlaw15_awake.calls (k : Nat) (r : Bool) (w : World) (hT : Aside0 (Tabs w)) (h : hogsheadlaw15_awake.f k = some r) :
    Calls Tryd.prog 15 #[] w fun e w' => e = .returned (.bool r) ∧ Below w.heap.size w w' := hogsheadlaw15_awake.calls_true k r w hT h ⟨qEy h⟩
end Go.Proofs.YtbnoihpooeombaaDoor.X

namespace Go.Proofs.YtbnoihpooeombaaDoor.P
open Go.Proofs.YtbnoihpooeombaaDoor.X
open Go.RowKit Go.Proofs.YtbnoihpooeombaaDoorW.PrintWords Go.Proofs.YtbnoihpooeombaaDoorW.PrintLast Go.Proofs.YtbnoihpooeombaaDoorW.PrintMore
attribute [local go_sem] qAu qA0
set_option linter.unusedVariables false
set_option linter.unusedSimpArgs false
mutual
def hogsheadlaw15_ValueQuotes.j0 : Nat → ByteArray → ByteArray → Bool → Option (Bool)
 | 0, _, _, _ => none
 | k + 1, x0, x1, x17 => if x17 = true then ((hogsheadlaw15_awake.f k).bind fun t371 => (some t371)) else ((value_Quote.f k x0).bind fun t372 => ((value_Quote.f k x1).bind fun t373 => (hogsheadlaw15_ValueQuotes.l0 k x0 x1 t372 t373 true 0)))
def hogsheadlaw15_ValueQuotes.l0 : Nat → ByteArray → ByteArray → ByteArray → ByteArray → Bool → Int → Option (Bool)
 | 0, _, _, _, _, _, _ => none
 | k + 1, x0, x1, x5, x6, x7, x8 => if x8 < (x0.size : Int) then (if x7 = true then (if 0 ≤ x8 then (if (bt x0 x8) ≥ 32 then (if (bt x0 x8) ≤ 126 then (if (bt x0 x8) = 34 then (hogsheadlaw15_ValueQuotes.l0 k x0 x1 x5 x6 false (wrap64 (x8 + 1))) else (hogsheadlaw15_ValueQuotes.l0 k x0 x1 x5 x6 ((bt x0 x8) != 92) (wrap64 (x8 + 1)))) else (hogsheadlaw15_ValueQuotes.l0 k x0 x1 x5 x6 false (wrap64 (x8 + 1)))) else (hogsheadlaw15_ValueQuotes.l0 k x0 x1 x5 x6 false (wrap64 (x8 + 1)))) else (none)) else (hogsheadlaw15_ValueQuotes.l0 k x0 x1 x5 x6 false (wrap64 (x8 + 1)))) else (hogsheadlaw15_ValueQuotes.l1 k x0 x1 x5 x6 x7 0)
def hogsheadlaw15_ValueQuotes.l1 : Nat → ByteArray → ByteArray → ByteArray → ByteArray → Bool → Int → Option (Bool)
 | 0, _, _, _, _, _, _ => none
 | k + 1, x0, x1, x5, x6, x7, x9 => if x9 < (x5.size : Int) then (if 0 ≤ x9 then (if (bt x5 x9) < 32 then (some false) else (if (bt x5 x9) > 126 then (some false) else (hogsheadlaw15_ValueQuotes.l1 k x0 x1 x5 x6 x7 (wrap64 (x9 + 1))))) else (none)) else (if ((x5.toList == x6.toList) == (x0.toList == x1.toList)) = true then (if (((x5.size : Int) == (wrap64 ((x0.size : Int) + 2))) == x7) = true then (if x7 = true then (if 1 + x0.size ≤ 9223372036854775807 then (if ((⟨#[34]⟩ : ByteArray) ++ x0).size + 1 ≤ 9223372036854775807 then (if x5.toList = (((⟨#[34]⟩ : ByteArray) ++ x0) ++ (⟨#[34]⟩ : ByteArray)).toList then ((hogsheadlaw15_awake.f k).bind fun t374 => (some t374)) else (some false)) else (none)) else (none)) else ((hogsheadlaw15_awake.f k).bind fun t375 => (some t375))) else (some false)) else (some false))
end
def hogsheadlaw15_ValueQuotes.f (k : Nat) (a0 : ByteArray) (a1 : ByteArray) : Option (Bool) := if (a0.size : Int) > 100 then (hogsheadlaw15_ValueQuotes.j0 k a0 a1 true) else (hogsheadlaw15_ValueQuotes.j0 k a0 a1 (decide ((a1.size : Int) > 100)))
end Go.Proofs.YtbnoihpooeombaaDoor.P

namespace Go.Proofs.YtbnoihpooeombaaDoor.P
open Go.Proofs.YtbnoihpooeombaaDoor.X
open Go.RowKit Go.Proofs.YtbnoihpooeombaaDoorW.PrintWords Go.Proofs.YtbnoihpooeombaaDoorW.PrintLast Go.Proofs.YtbnoihpooeombaaDoorW.PrintMore
attribute [local go_sem] qAu qA0
set_option linter.unusedVariables false
set_option linter.unusedSimpArgs false
def hogsheadlaw0_Low.f (a0 : Int) (a1 : Int) : Option (Int) := if (IntKind.u64.wrap (a1)) = 0 then (none) else (some (wrap64 (Int.tmod (IntKind.u64.wrap (a0)) (IntKind.u64.wrap (a1)))))
set_option maxHeartbeats 8000000 in
set_option maxRecDepth 100000 in
theorem hogsheadlaw0_Low.calls (a0 : Int) (a1 : Int) (r : Int) (w : World) (h : hogsheadlaw0_Low.f a0 a1 = some r) :
  Calls Tryd.prog 32 #[.int .i64 a0, .int .i64 a1] w fun e w' => e = .returned (.int .i64 r) ∧ Drawn0 w w' := by
 have H : (if (IntKind.u64.wrap (a1)) = 0 then (none) else (some (wrap64 (Int.tmod (IntKind.u64.wrap (a0)) (IntKind.u64.wrap (a1)))))) = some r := h
 clear h
 by_cases c3 : (IntKind.u64.wrap (a1)) = 0
 ·rw [if_pos c3] at H
  exact absurd H (by simp)
 ·rw [if_neg c3] at H
  have c3b0 : ((IntKind.u64.wrap (a1)) == 0) = false := beq_eq_false_iff_ne.mpr c3
  have c3b1 : ((IntKind.u64.wrap (a1)) != 0) = true := bne_iff_ne.mpr c3
  obtain rfl := Option.some.inj H
  go_enter Tryd.func32, Tryd.ntmps32
  go_wp2
  go_ret
  exact ⟨by first | rfl | (simp; done) | (simp [*]; done), by repeat (first | exact Drawn0.refl _ | apply Drawn0.step)⟩
end Go.Proofs.YtbnoihpooeombaaDoor.P

namespace Go.Proofs.YtbnoihpooeombaaDoor.P
open Go.Proofs.YtbnoihpooeombaaDoor.X
open Go.RowKit Go.Proofs.YtbnoihpooeombaaDoorW.PrintWords Go.Proofs.YtbnoihpooeombaaDoorW.PrintLast Go.Proofs.YtbnoihpooeombaaDoorW.PrintMore
attribute [local go_sem] qAu qA0
set_option linter.unusedVariables false
set_option linter.unusedSimpArgs false
def hogsheadlaw15_ValueDeep.l0 : Nat → Int → Int → Int → Int → Bool → Int → ByteArray → List (S25) → Option (Bool)
 | 0, _, _, _, _, _, _, _, _ => none
 | k + 1, x0, x1, x6, x379000, x379001, x379002, x379003, x379004 => if x6 < x0 then (hogsheadlaw15_ValueDeep.l0 k x0 x1 (wrap64 (x6 + 1)) 4 false 0 (⟨#[]⟩ : ByteArray) (([(⟨x379000, x379001, x379002, x379003, x379004, ([] : List ByteArray)⟩ : S25)] : List (S25)))) else (if 0 ≤ x1 then (if (x1 : Int).toNat ≤ 3198579280802 then ((value_Lay.f k x379000 x379001 x379002 x379003 x379004 ([] : List ByteArray)).bind fun bt386 => ((value_May.f x379000 x379001 x379002 x379003 x379004 ([] : List ByteArray)).bind fun t388 => (if (t388 == (decide (x0 ≤ 16))) = true then (if ((bt386.2 == 0) == (decide (x0 ≤ 16))) = true then ((value_May.f 4 false 0 (⟨#[]⟩ : ByteArray) (List.replicate (x1 : Int).toNat z25) ([] : List ByteArray)).bind fun t389 => (if (t389 == (decide ((wrap64 (x1 + 1)) ≤ 4000))) = true then ((hogsheadlaw15_awake.f k).bind fun t390 => (some t390)) else (some false))) else (some false)) else (some false)))) else (none)) else (none))
def hogsheadlaw15_ValueDeep.f (k : Nat) (a0 : Int) (a1 : Int) : Option (Bool) := (hogsheadlaw0_Low.f a0 20).bind fun t376 => ((hogsheadlaw0_Low.f a1 4010).bind fun t377 => (hogsheadlaw15_ValueDeep.l0 k (wrap64 (1 + t376)) t377 1 0 false 0 (⟨#[]⟩ : ByteArray) ([] : List (S25))))
end Go.Proofs.YtbnoihpooeombaaDoor.P

namespace Go.Proofs.YtbnoihpooeombaaDoor.X
open Go.RowKit Go.Proofs.YtbnoihpooeombaaDoorW.PrintWords Go.Proofs.YtbnoihpooeombaaDoor.P
set_option linter.unusedVariables false
set_option linter.unusedSimpArgs false
theorem qGy (a n : Int) (h1 : 1 ≤ n) (h2 : n ≤ 100000) : ∃ m : Nat, hogsheadlaw0_Low.f a n = some (m : Int) ∧ (m : Int) < n := by
  have e : IntKind.u64.wrap n = n := by simp [IntKind.wrap, IntKind.bits, IntKind.signed]; omega
  obtain ⟨u, hu⟩ : ∃ u : Nat, IntKind.u64.wrap a = (u : Int) := by
    refine Int.eq_ofNat_of_zero_le ?_
    simp [IntKind.wrap, IntKind.bits, IntKind.signed]
    omega
  obtain ⟨v, rfl⟩ := Int.eq_ofNat_of_zero_le (show 0 ≤ n by omega)
  refine ⟨u % v, ?_, ?_⟩
  · unfold hogsheadlaw0_Low.f
    rw [e, hu]
    clear e hu
    rw [if_neg (by omega)]
    have hm : Int.tmod (u : Int) (v : Int) = ((u % v : Nat) : Int) := by rw [Int.tmod_eq_emod_of_nonneg (by omega)]; rfl
    rw [hm]
    have := Nat.mod_lt u (show 0 < v by omega)
    exact congrArg some (qBk rfl (by omega))
  · have := Nat.mod_lt u (show 0 < v by omega)
    omega
theorem qEe : (⟨#[]⟩ : ByteArray).size = 0 := rfl
end Go.Proofs.YtbnoihpooeombaaDoor.X

namespace Go.Proofs.YtbnoihpooeombaaDoor.P
open Go.Proofs.YtbnoihpooeombaaDoor.X
open Go.RowKit Go.Proofs.YtbnoihpooeombaaDoorW.PrintWords Go.Proofs.YtbnoihpooeombaaDoorW.PrintLast Go.Proofs.YtbnoihpooeombaaDoorW.PrintMore
attribute [local go_sem] qAu qA0
set_option linter.unusedVariables false
set_option linter.unusedSimpArgs false
mutual
def hogsheadlaw15_great.l0 : Nat → List (S25) → Int → Int → Option (Bool)
 | 0, _, _, _ => none
 | k + 1, x0, x3, x4 => if x4 < (x0.length : Int) then (hogsheadlaw15_great.j1 k x0 x3 x4 (decide ((x0.length : Int) ≤ 12))) else (hogsheadlaw15_great.j1 k x0 x3 x4 false)
def hogsheadlaw15_great.j1 : Nat → List (S25) → Int → Int → Bool → Option (Bool)
 | 0, _, _, _, _ => none
 | k + 1, x0, x3, x4, x13 => if x13 = true then (if 0 ≤ x4 then (if x4 < (x0.length : Int) then ((hogsheadlaw0_GreatValue.f k ((rd_T25 x0 x4).f0) ((rd_T25 x0 x4).f1) ((rd_T25 x0 x4).f2) ((rd_T25 x0 x4).f3) ((rd_T25 x0 x4).f4) ((rd_T25 x0 x4).f5) 60).bind fun t290 => (if t290 = true then (some true) else (hogsheadlaw15_great.l0 k x0 (wrap64 (x3 + 1)) (wrap64 (x4 + 1))))) else (none)) else (none)) else (some (x3 != (x0.length : Int)))
end
def hogsheadlaw15_great.f (k : Nat) (l0 : List (S25)) : Option (Bool) := hogsheadlaw15_great.l0 k l0 0 0
end Go.Proofs.YtbnoihpooeombaaDoor.P

namespace Go.Proofs.YtbnoihpooeombaaDoor.X
open Go.RowKit Go.Proofs.YtbnoihpooeombaaDoorW.PrintWords Go.Proofs.YtbnoihpooeombaaDoor.P
set_option linter.unusedVariables false
set_option linter.unusedSimpArgs false
theorem sum_le'' {α : Type} (f : α → Nat) (c : Nat) : ∀ l : List α, (∀ x ∈ l, f x ≤ c) → (l.map f).sum ≤ l.length * c
  | [], _ => by simp
  | a :: l, h => by
    have := sum_le'' f c l (fun x hx => h x (List.mem_cons_of_mem _ hx))
    have h2 := h a (List.mem_cons_self ..)
    simp only [List.map_cons, List.sum_cons, List.length_cons, Nat.add_mul]
    omega
end Go.Proofs.YtbnoihpooeombaaDoor.X

namespace Go.Proofs.YtbnoihpooeombaaDoor.X
open Go.RowKit Go.Proofs.YtbnoihpooeombaaDoorW.PrintWords Go.Proofs.YtbnoihpooeombaaDoor.P
set_option linter.unusedVariables false
set_option linter.unusedSimpArgs false
abbrev KV := ByteArray × S25
def firstV : List ByteArray → List S25 → ByteArray → Option S25
  | k :: ks, v :: vs, key => if k = key then some v else firstV ks vs key
  | _, _, _ => none
theorem qFl {α β : Type} : ∀ (K : List α) (V : List β) (p : Nat), (K.take p).zip (V.take p) = (K.zip V).take p
  | [], V, p => by simp
  | _ :: _, [], p => by cases p <;> simp
  | k :: K, v :: V, 0 => by simp
  | k :: K, v :: V, p + 1 => by simp [qFl K V p]
theorem qFm {α β : Type} : ∀ (K : List α) (V : List β) (p : Nat), (K.drop p).zip (V.drop p) = (K.zip V).drop p
  | [], V, p => by simp
  | _ :: _, [], p => by cases p <;> simp
  | k :: K, v :: V, 0 => by simp
  | k :: K, v :: V, p + 1 => by simp [qFm K V p]
theorem qGc {α β : Type} : ∀ (K : List α) (V : List β), K.length = V.length → K.reverse.zip V.reverse = (K.zip V).reverse
  | [], [], _ => rfl
  | [], _ :: _, h => by simp at h
  | _ :: _, [], h => by simp at h
  | k :: K, v :: V, h => by
    rw [List.reverse_cons, List.reverse_cons, List.zip_append (by simpa using h), qGc K V (by simpa using h)]
    simp
theorem qF0 {α β : Type} (K : List α) (V : List β) (p : Nat) (k : α) (v : β) (h : K.length = V.length) : (K.take p ++ k :: K.drop p).zip (V.take p ++ v :: V.drop p) = (K.zip V).take p ++ (k, v) :: (K.zip V).drop p := by
  rw [List.zip_append (by rw [List.length_take, List.length_take, h]), List.zip_cons_cons, qFl, qFm]
theorem qB6 {α : Type} (l : List α) (p : Nat) (a x : α) : x ∈ l.take p ++ a :: l.drop p ↔ x = a ∨ x ∈ l := by
  have h : l.take p ++ l.drop p = l := List.take_append_drop p l
  constructor
  · intro hx
    rcases List.mem_append.1 hx with hx | hx
    · exact .inr (List.mem_of_mem_take hx)
    · rcases List.mem_cons.1 hx with hx | hx
      · exact .inl hx
      · exact .inr (List.mem_of_mem_drop hx)
  · rintro (rfl | hx)
    · exact List.mem_append_right _ (List.mem_cons_self ..)
    · rw [← h] at hx
      rcases List.mem_append.1 hx with hx | hx
      · exact List.mem_append_left _ hx
      · exact List.mem_append_right _ (List.mem_cons_of_mem _ hx)
theorem qB0 : ∀ (ks : List ByteArray) (vs : List S25) (K : List ByteArray) (V : List S25), qAx K = true → K.length = V.length →
    qAx (ofP ks vs K V).1 = true ∧ (ofP ks vs K V).1.length = (ofP ks vs K V).2.length ∧ ∀ k v, (k, v) ∈ (ofP ks vs K V).1.zip (ofP ks vs K V).2 ↔ ((k, v) ∈ K.zip V ∨ (k ∉ K ∧ firstV ks vs k = some v))
  | [], vs, K, V, hr, hl => by
    have : ofP [] vs K V = (K, V) := by cases vs <;> rfl
    rw [this]
    exact ⟨hr, hl, fun k v => ⟨.inl, fun h => h.elim id (fun h => by have := h.2; simp [firstV] at this)⟩⟩
  | k0 :: ks, [], K, V, hr, hl => ⟨hr, hl, fun k v => ⟨.inl, fun h => h.elim id (fun h => by have := h.2; simp [firstV] at this)⟩⟩
  | k0 :: ks, v0 :: vs, K, V, hr, hl => by
    cases hi : isK K k0 with
    | true =>
      rw [ofP, if_pos hi]
      obtain ⟨h1, h2, h3⟩ := qB0 ks vs K V hr hl
      refine ⟨h1, h2, fun k v => (h3 k v).trans ?_⟩
      have hmem := (qCl K k0 hr).1 hi
      constructor
      · rintro (h | ⟨h, h'⟩)
        · exact .inl h
        · refine .inr ⟨h, ?_⟩
          rw [firstV, if_neg (fun e : k0 = k => h (e ▸ hmem))]
          exact h'
      · rintro (h | ⟨h, h'⟩)
        · exact .inl h
        · refine .inr ⟨h, ?_⟩
          rw [firstV, if_neg (fun e : k0 = k => h (e ▸ hmem))] at h'
          exact h'
    | false =>
      rw [ofP, if_neg (by rw [hi]; decide)]
      have hp := qD3 K k0
      have hl2 : (K.take (posK K k0) ++ k0 :: K.drop (posK K k0)).length = (V.take (posK K k0) ++ v0 :: V.drop (posK K k0)).length := by
        simp only [List.length_append, List.length_cons, List.length_take, List.length_drop]; omega
      obtain ⟨h1, h2, h3⟩ := qB0 ks vs _ _ (qBs K k0 hr hi) hl2
      have hnot : k0 ∉ K := fun h => by rw [(qCl K k0 hr).2 h] at hi; cases hi
      refine ⟨h1, h2, fun k v => (h3 k v).trans ?_⟩
      rw [qF0 K V (posK K k0) k0 v0 hl, qB6, qB6]
      constructor
      · rintro ((h | h) | ⟨h, h'⟩)
        · injection h with e1 e2
          subst e1 e2
          refine .inr ⟨hnot, ?_⟩
          rw [firstV, if_pos rfl]
        · exact .inl h
        · have hne : ¬ k0 = k := fun e => h (.inl e.symm)
          refine .inr ⟨fun hk => h (.inr hk), ?_⟩
          rw [firstV, if_neg hne]
          exact h'
      · rintro (h | ⟨h, h'⟩)
        · exact .inl (.inr h)
        · by_cases e : k0 = k
          · rw [firstV, if_pos e] at h'
            exact .inl (.inl (by rw [← e, ← Option.some.inj h']))
          · rw [firstV, if_neg e] at h'
            refine .inr ⟨?_, h'⟩
            rintro (hk | hk)
            · exact e hk.symm
            · exact h hk
theorem qE1 {a b : ByteArray} {l : List ByteArray} (h : qAx (a :: l) = true) (hb : b ∈ l) : lessB a b = true := (qBc h).2 b hb
theorem qFq : ∀ (L M : List KV), qAx (L.map (·.1)) = true → qAx (M.map (·.1)) = true → (∀ p, p ∈ L ↔ p ∈ M) → L = M
  | [], [], _, _, _ => rfl
  | [], b :: M, _, _, h => by have := (h b).2 (List.mem_cons_self ..); cases this
  | a :: L, [], _, _, h => by have := (h a).1 (List.mem_cons_self ..); cases this
  | a :: L, b :: M, hL, hM, h => by
    rw [List.map_cons] at hL hM
    have hlt : ∀ {x : KV} {l : List KV} {y : KV}, qAx (x.1 :: l.map (·.1)) = true → y ∈ l → lessB x.1 y.1 = true := fun hr hy => qE1 hr (List.mem_map_of_mem (f := (·.1)) hy)
    have hab : a = b := by
      rcases List.mem_cons.1 ((h a).1 (List.mem_cons_self ..)) with e | h1
      · exact e
      · rcases List.mem_cons.1 ((h b).2 (List.mem_cons_self ..)) with e | h2
        · exact e.symm
        · have h3 := qCh (hlt hM h1) (hlt hL h2)
          rw [qBy] at h3
          cases h3
    subst hab
    congr 1
    refine qFq L M (qBc hL).1 (qBc hM).1 (fun p => ?_)
    have hirr : ∀ {l : List KV}, qAx (a.1 :: l.map (·.1)) = true → a ∉ l := fun hr ha => by
      have := hlt hr ha
      rw [qBy] at this
      cases this
    constructor
    · intro hp
      rcases List.mem_cons.1 ((h p).1 (List.mem_cons_of_mem _ hp)) with e | h1
      · exact absurd (e ▸ hp) (hirr hL)
      · exact h1
    · intro hp
      rcases List.mem_cons.1 ((h p).2 (List.mem_cons_of_mem _ hp)) with e | h1
      · exact absurd (e ▸ hp) (hirr hM)
      · exact h1
theorem qHm {ks ks' : List ByteArray} {vs vs' : List S25} (h : ∀ k v, firstV ks vs k = some v ↔ firstV ks' vs' k = some v) : ofP ks vs [] [] = ofP ks' vs' [] [] := by
  obtain ⟨h1, h2, h3⟩ := qB0 ks vs [] [] rfl rfl
  obtain ⟨g1, g2, g3⟩ := qB0 ks' vs' [] [] rfl rfl
  have e := qFq ((ofP ks vs [] []).1.zip (ofP ks vs [] []).2) ((ofP ks' vs' [] []).1.zip (ofP ks' vs' [] []).2) (by rw [List.map_fst_zip (by omega)]; exact h1) (by rw [List.map_fst_zip (by omega)]; exact g1) (fun p => by
    obtain ⟨k, v⟩ := p
    rw [h3, g3]
    simp [h k v])
  obtain ⟨e1, e2⟩ := qHs _ _ _ _ h2 g2 e
  exact Prod.ext e1 e2
theorem qDu : ∀ (ks : List ByteArray) (vs : List S25) (K : List ByteArray) (V : List S25), qAx K = true → ks.length = vs.length → ks.Nodup → (∀ k ∈ ks, k ∉ K) → (ofP ks vs K V).1.length = K.length + ks.length
  | [], vs, K, V, _, _, _, _ => by
    have : ofP [] vs K V = (K, V) := by cases vs <;> rfl
    rw [this]; rfl
  | k0 :: ks, [], K, V, _, h, _, _ => by simp at h
  | k0 :: ks, v0 :: vs, K, V, hr, hl, hn, hk => by
    have hi : isK K k0 = false := by
      cases e : isK K k0 with
      | false => rfl
      | true => exact absurd ((qCl K k0 hr).1 e) (hk k0 (List.mem_cons_self ..))
    have hp := qD3 K k0
    obtain ⟨hn1, hn2⟩ := List.nodup_cons.1 hn
    rw [ofP, if_neg (by rw [hi]; decide), qDu ks vs _ _ (qBs K k0 hr hi) (by simpa using hl) hn2 (fun k hk' hm => by
      rcases (qB6 K (posK K k0) k0 k).1 hm with e | h
      · exact hn1 (e ▸ hk')
      · exact hk k (List.mem_cons_of_mem _ hk') h)]
    simp only [List.length_append, List.length_cons, List.length_take, List.length_drop]
    omega
theorem qC3 : ∀ (ks : List ByteArray) (vs : List S25) (k : ByteArray) (v : S25), firstV ks vs k = some v → (k, v) ∈ ks.zip vs
  | [], _, k, v, h => by simp [firstV] at h
  | _ :: _, [], k, v, h => by simp [firstV] at h
  | k0 :: ks, v0 :: vs, k, v, h => by
    rw [firstV] at h
    rw [List.zip_cons_cons]
    by_cases e : k0 = k
    · rw [if_pos e] at h
      rw [e, Option.some.inj h]
      exact List.mem_cons_self ..
    · rw [if_neg e] at h
      exact List.mem_cons_of_mem _ (qC3 ks vs k v h)
theorem qCe : ∀ (ks : List ByteArray) (vs : List S25) (k : ByteArray) (v : S25), ks.Nodup → (k, v) ∈ ks.zip vs → firstV ks vs k = some v
  | [], _, k, v, _, h => by simp at h
  | _ :: _, [], k, v, _, h => by simp at h
  | k0 :: ks, v0 :: vs, k, v, hn, h => by
    obtain ⟨hn1, hn2⟩ := List.nodup_cons.1 hn
    rw [List.zip_cons_cons] at h
    rw [firstV]
    rcases List.mem_cons.1 h with e | h
    · injection e with e1 e2
      rw [if_pos e1.symm, e2]
    · rw [if_neg (fun e : k0 = k => hn1 (e ▸ (List.of_mem_zip h).1))]
      exact qCe ks vs k v hn2 h
theorem qEt : ∀ (ks : List ByteArray) (vs : List S25) (f : Nat) (h : f < ks.length) (h' : f < vs.length), (∀ j (hj : j < f), ks[j] ≠ ks[f]) → firstV ks vs ks[f] = some vs[f]
  | [], _, f, h, _, _ => by simp at h
  | _ :: _, [], f, _, h, _ => by simp at h
  | k0 :: ks, v0 :: vs, 0, _, _, _ => by rw [firstV, if_pos (by simp)]; simp
  | k0 :: ks, v0 :: vs, f + 1, h, h', hf => by
    have h0 := hf 0 (by omega)
    simp only [List.getElem_cons_zero, List.getElem_cons_succ] at h0 ⊢
    rw [firstV, if_neg h0]
    refine qEt ks vs f (by simpa using h) (by simpa using h') (fun j hj => ?_)
    have := hf (j + 1) (by omega)
    simpa using this
theorem qGs {α : Type} {l : List α} (h : l.Nodup) : l.reverse.Nodup := List.pairwise_reverse.2 (h.imp fun h e => h e.symm)
theorem qGa {ks : List ByteArray} {vs : List S25} (hn : ks.Nodup) (hl : ks.length = vs.length) (k : ByteArray) (v : S25) : firstV ks vs k = some v ↔ firstV ks.reverse vs.reverse k = some v := by
  have hz : ks.reverse.zip vs.reverse = (ks.zip vs).reverse := qGc ks vs hl
  constructor
  · intro h
    refine qCe _ _ k v (qGs hn) ?_
    rw [hz, List.mem_reverse]
    exact qC3 ks vs k v h
  · intro h
    refine qCe _ _ k v hn ?_
    have := qC3 _ _ k v h
    rw [hz, List.mem_reverse] at this
    exact this
theorem qHl {K : List ByteArray} {V : List S25} {k : ByteArray} {v : S25} (hr : qAx K = true) (hl : K.length = V.length) (h : (k, v) ∈ K.zip V) : isK K k = true ∧ V[posK K k]? = some v := by
  have hk := (qCl K k hr).2 (List.of_mem_zip h).1
  refine ⟨hk, ?_⟩
  obtain ⟨i, hi, e⟩ := List.mem_iff_getElem.1 h
  rw [List.length_zip] at hi
  rw [List.getElem_zip] at e
  injection e with e1 e2
  have hp := qCg K k hr i (by omega)
  rw [e1, qBy] at hp
  have h1 : ¬ i < posK K k := fun h => by simpa using hp.2 h
  obtain ⟨h2, h3⟩ := isK_lt hk
  have h4 := h3 h2
  have : posK K k = i := by
    rcases Nat.lt_or_ge (posK K k) i with h5 | h5
    · exfalso
      have hne := qCg K k hr i (by omega)
      have : ∀ (K : List ByteArray), qAx K = true → ∀ (p q : Nat) (hq : q < K.length) (hpq : p < q), lessB (K[p]'(by omega)) K[q] = true := by
        intro K
        induction K with
        | nil => intro _ p q hq; simp at hq
        | cons a K ih =>
          intro hr p q hq hpq
          obtain ⟨h1, h2⟩ := qBc hr
          cases q with
          | zero => omega
          | succ q =>
            cases p with
            | zero => exact h2 _ (List.getElem_mem _)
            | succ p => exact ih h1 p q (by simpa using hq) (by omega)
      have h6 := this K hr _ _ (show i < K.length by omega) h5
      rw [h4, e1, qBy] at h6
      cases h6
    · omega
  rw [this, List.getElem?_eq_getElem (by omega), e2]
end Go.Proofs.YtbnoihpooeombaaDoor.X

namespace Go.Proofs.YtbnoihpooeombaaDoor.P
open Go.Proofs.YtbnoihpooeombaaDoor.X
open Go.RowKit Go.Proofs.YtbnoihpooeombaaDoorW.PrintWords Go.Proofs.YtbnoihpooeombaaDoorW.PrintLast Go.Proofs.YtbnoihpooeombaaDoorW.PrintMore
attribute [local go_sem] qAu qA0
set_option linter.unusedVariables false
set_option linter.unusedSimpArgs false
mutual
def hogsheadlaw15_ValueKeys.j0 : Nat → List ByteArray → List Int → Bool → Option (Bool)
 | 0, _, _, _ => none
 | k + 1, x0, x1, x26 => if x26 = true then ((hogsheadlaw15_awake.f k).bind fun t312 => (some t312)) else (hogsheadlaw15_ValueKeys.l0 k x0 x1 ([] : List (S25)) 0)
def hogsheadlaw15_ValueKeys.l0 : Nat → List ByteArray → List Int → List (S25) → Int → Option (Bool)
 | 0, _, _, _, _ => none
 | k + 1, x0, x1, x5, x8 => if x8 < (x0.length : Int) then (if 0 ≤ x8 then (if x8 < (x1.length : Int) then ((hogsheadlaw0_Low.f (rd x1 x8) 1000).bind fun t314 => (if x5.length < 1599289640401 then (hogsheadlaw15_ValueKeys.l0 k x0 x1 (x5 ++ [(⟨2, false, t314, (⟨#[]⟩ : ByteArray), ([] : List (S25)), ([] : List ByteArray)⟩ : S25)]) (wrap64 (x8 + 1))) else (none))) else (none)) else (none)) else (hogsheadlaw15_ValueKeys.l1 k x0 x5 ([] : List (S25)) ([] : List ByteArray) true (wrap64 ((x0.length : Int) - 1)))
def hogsheadlaw15_ValueKeys.l1 : Nat → List ByteArray → List (S25) → List (S25) → List ByteArray → Bool → Int → Option (Bool)
 | 0, _, _, _, _, _, _ => none
 | k + 1, x0, x5, x6, x7, x9, x10 => if x10 ≥ 0 then (if 0 ≤ x10 then (if x10 < (x0.length : Int) then (if x7.length < 8796093022208 then (if x10 < (x5.length : Int) then (if x6.length < 1599289640401 then (hogsheadlaw15_ValueKeys.l2 k x0 x5 (x6 ++ [(⟨(rd_T25 x5 x10).f0, (rd_T25 x5 x10).f1, (rd_T25 x5 x10).f2, (rd_T25 x5 x10).f3, (rd_T25 x5 x10).f4, (rd_T25 x5 x10).f5⟩ : S25)]) (x7 ++ [rdOf ByteArray.empty x0 x10]) x9 x10 0) else (none)) else (none)) else (none)) else (none)) else (none)) else ((value_Of.f k x0 x5).bind fun bt328 => ((value_May.f bt328.1 bt328.2.1 bt328.2.2.1 bt328.2.2.2.1 bt328.2.2.2.2.1 bt328.2.2.2.2.2).bind fun t339 => (if t339 = true then (if bt328.1 = 5 then (if (bt328.2.2.2.2.2.length : Int) = (bt328.2.2.2.2.1.length : Int) then (if x9 = true then (if (bt328.2.2.2.2.2.length : Int) = (x0.length : Int) then ((value_Of.f k x7 x6).bind fun bt340 => ((value_Same.f bt328.1 bt328.2.1 bt328.2.2.1 bt328.2.2.2.1 bt328.2.2.2.2.1 bt328.2.2.2.2.2 bt340.1 bt340.2.1 bt340.2.2.1 bt340.2.2.2.1 bt340.2.2.2.2.1 bt340.2.2.2.2.2).bind fun t350 => (hogsheadlaw15_ValueKeys.j4 k x0 x5 (!t350) bt328.1 bt328.2.1 bt328.2.2.1 bt328.2.2.2.1 bt328.2.2.2.2.1 bt328.2.2.2.2.2))) else (hogsheadlaw15_ValueKeys.j4 k x0 x5 true bt328.1 bt328.2.1 bt328.2.2.1 bt328.2.2.2.1 bt328.2.2.2.2.1 bt328.2.2.2.2.2)) else (hogsheadlaw15_ValueKeys.j4 k x0 x5 false bt328.1 bt328.2.1 bt328.2.2.1 bt328.2.2.2.1 bt328.2.2.2.2.1 bt328.2.2.2.2.2)) else (hogsheadlaw15_ValueKeys.j4 k x0 x5 true bt328.1 bt328.2.1 bt328.2.2.1 bt328.2.2.2.1 bt328.2.2.2.2.1 bt328.2.2.2.2.2)) else (hogsheadlaw15_ValueKeys.j4 k x0 x5 true bt328.1 bt328.2.1 bt328.2.2.1 bt328.2.2.2.1 bt328.2.2.2.2.1 bt328.2.2.2.2.2)) else (hogsheadlaw15_ValueKeys.j4 k x0 x5 true bt328.1 bt328.2.1 bt328.2.2.1 bt328.2.2.2.1 bt328.2.2.2.2.1 bt328.2.2.2.2.2))))
def hogsheadlaw15_ValueKeys.l2 : Nat → List ByteArray → List (S25) → List (S25) → List ByteArray → Bool → Int → Int → Option (Bool)
 | 0, _, _, _, _, _, _, _ => none
 | k + 1, x0, x5, x6, x7, x9, x10, x11 => if x11 < x10 then (if x9 = true then (if 0 ≤ x11 then (if x11 < (x0.length : Int) then (if 0 ≤ x10 then (if x10 < (x0.length : Int) then (hogsheadlaw15_ValueKeys.l2 k x0 x5 x6 x7 ((rdOf ByteArray.empty x0 x11).toList != (rdOf ByteArray.empty x0 x10).toList) x10 (wrap64 (x11 + 1))) else (none)) else (none)) else (none)) else (none)) else (hogsheadlaw15_ValueKeys.l2 k x0 x5 x6 x7 false x10 (wrap64 (x11 + 1)))) else (hogsheadlaw15_ValueKeys.l1 k x0 x5 x6 x7 x9 (wrap64 (x10 - 1)))
def hogsheadlaw15_ValueKeys.j4 : Nat → List ByteArray → List (S25) → Bool → Int → Bool → Int → ByteArray → List (S25) → List ByteArray → Option (Bool)
 | 0, _, _, _, _, _, _, _, _, _ => none
 | k + 1, x0, x5, x119, x339000, x339001, x339002, x339003, x339004, x339005 => if x119 = true then (some false) else (hogsheadlaw15_ValueKeys.l3 k x0 x5 1 x339000 x339001 x339002 x339003 x339004 x339005)
def hogsheadlaw15_ValueKeys.l3 : Nat → List ByteArray → List (S25) → Int → Int → Bool → Int → ByteArray → List (S25) → List ByteArray → Option (Bool)
 | 0, _, _, _, _, _, _, _, _, _ => none
 | k + 1, x0, x5, x13, x339000, x339001, x339002, x339003, x339004, x339005 => if x13 < (x339005.length : Int) then (if 0 ≤ (wrap64 (x13 - 1)) then (if (wrap64 (x13 - 1)) < (x339005.length : Int) then (if 0 ≤ x13 then (if ((Op.bytesLess ((rdOf ByteArray.empty x339005 (wrap64 (x13 - 1))).toList) ((rdOf ByteArray.empty x339005 x13).toList)) = true) then (hogsheadlaw15_ValueKeys.l3 k x0 x5 (wrap64 (x13 + 1)) x339000 x339001 x339002 x339003 x339004 x339005) else (some false)) else (none)) else (none)) else (none)) else (hogsheadlaw15_ValueKeys.l4 k x0 x5 0 x339000 x339001 x339002 x339003 x339004 x339005)
def hogsheadlaw15_ValueKeys.l4 : Nat → List ByteArray → List (S25) → Int → Int → Bool → Int → ByteArray → List (S25) → List ByteArray → Option (Bool)
 | 0, _, _, _, _, _, _, _, _, _ => none
 | k + 1, x0, x5, x14, x339000, x339001, x339002, x339003, x339004, x339005 => if x14 < (x0.length : Int) then (hogsheadlaw15_ValueKeys.l5 k x0 x5 x14 0 x339000 x339001 x339002 x339003 x339004 x339005) else ((hogsheadlaw15_awake.f k).bind fun t353 => (some t353))
def hogsheadlaw15_ValueKeys.l5 : Nat → List ByteArray → List (S25) → Int → Int → Int → Bool → Int → ByteArray → List (S25) → List ByteArray → Option (Bool)
 | 0, _, _, _, _, _, _, _, _, _, _ => none
 | k + 1, x0, x5, x14, x15, x339000, x339001, x339002, x339003, x339004, x339005 => if 0 ≤ x15 then (if x15 < (x0.length : Int) then (if 0 ≤ x14 then (if x14 < (x0.length : Int) then (if (rdOf ByteArray.empty x0 x15).toList = (rdOf ByteArray.empty x0 x14).toList then ((value_Get.f k x339000 x339001 x339002 x339003 x339004 x339005 (rdOf ByteArray.empty x0 x14)).bind fun bt357 => (if bt357.2.2.2.2.2.2 = true then (if x15 < (x5.length : Int) then ((hogsheadlaw0_SameValue.f k bt357.1 bt357.2.1 bt357.2.2.1 bt357.2.2.2.1 bt357.2.2.2.2.1 bt357.2.2.2.2.2.1 ((rd_T25 x5 x15).f0) ((rd_T25 x5 x15).f1) ((rd_T25 x5 x15).f2) ((rd_T25 x5 x15).f3) ((rd_T25 x5 x15).f4) ((rd_T25 x5 x15).f5) 2).bind fun t370 => (if t370 = true then (hogsheadlaw15_ValueKeys.l4 k x0 x5 (wrap64 (x14 + 1)) x339000 x339001 x339002 x339003 x339004 x339005) else (some false))) else (none)) else (some false))) else (hogsheadlaw15_ValueKeys.l5 k x0 x5 x14 (wrap64 (x15 + 1)) x339000 x339001 x339002 x339003 x339004 x339005)) else (none)) else (none)) else (none)) else (none)
end
def hogsheadlaw15_ValueKeys.f (k : Nat) (l0 : List ByteArray) (l1 : List Int) : Option (Bool) := (hogsheadlaw0_GreatTexts.f k l0 12 100).bind fun t311 => (if t311 = true then (hogsheadlaw15_ValueKeys.j0 k l0 l1 true) else (hogsheadlaw15_ValueKeys.j0 k l0 l1 ((l1.length : Int) != (l0.length : Int))))
theorem hogsheadlaw15_ValueKeys.j4_no : ∀ k y0 y1 y3 y4 y5 y6 y7 y8, ¬ hogsheadlaw15_ValueKeys.j4 k y0 y1 true y3 y4 y5 y6 y7 y8 = some true := by
 intro k
 intros
 cases k <;> simp [hogsheadlaw15_ValueKeys.j4]
def hogsheadlaw15_ValueKeys.T18 : Bool × List (List Nat × List Nat) := (true, [([], []), ([0], [0]), ([1], [1]), ([1], [1]), ([2, 3, 1], [1, 2, 3]), ([4, 1], [1, 4]), ([1], [1]), ([1], [1]), ([6, 7, 1], [1, 6, 7]), ([8, 1], [1, 8]), ([5, 9, 1], [1, 5, 9]), ([1, 10], [1, 10]), ([11, 1, 0, 1, 2, 3, 4, 5, 6, 7, 8, 9, 10, 11], [0, 11])])
def hogsheadlaw15_ValueKeys.B18 : List Nat := [0, 1, 3, 3, 15, 31, 3, 3, 195, 451, 1023, 2047, 4095]
theorem hogsheadlaw15_ValueKeys.tab18 : rtab .any (opsOf Tryd.f5 18) = hogsheadlaw15_ValueKeys.T18 := by kernel_rfl
theorem hogsheadlaw15_ValueKeys.bits18 : qBr hogsheadlaw15_ValueKeys.T18.2 hogsheadlaw15_ValueKeys.B18 = true := by kernel_rfl
def hogsheadlaw15_ValueKeys.T20 : Bool × List (List Nat × List Nat) := (true, [([], []), ([0], [0]), ([1], [1]), ([2, 1], [2]), ([3], [3]), ([4, 3], [3, 4]), ([5, 3], [3, 5]), ([3, 6], [3, 6]), ([7, 3], [7]), ([8], [8]), ([9, 8], [8, 9]), ([10, 8], [8, 10]), ([8], [8]), ([12, 8], [8, 12]), ([13, 8], [8, 13]), ([11, 14, 8], [8, 11, 14]), ([8, 15], [8, 15]), ([16, 8], [16]), ([17], [17]), ([18, 17, 17], [17, 18]), ([19], [19]), ([20, 19], [19, 20]), ([21, 19], [19, 21]), ([19], [19]), ([23, 19], [19, 23]), ([22, 24, 19], [19, 22, 24]), ([25, 19, 19], [19, 25]), ([26], [26]), ([26], [26]), ([26], [26]), ([28, 29, 26, 26], [26, 28, 29]), ([27, 30, 30, 26], [26, 27, 30]), ([31, 26], [26, 31]), ([26, 32, 19], [19, 26, 32]), ([19, 33, 17], [17, 19, 33]), ([17, 34], [17, 34])])
def hogsheadlaw15_ValueKeys.B20 : List Nat := [0, 1, 3, 7, 15, 31, 63, 127, 255, 511, 1023, 2047, 511, 4607, 12799, 32767, 65535, 131071, 262143, 524287, 1048575, 2097151, 4194303, 1048575, 9437183, 33554431, 67108863, 134217727, 134217727, 134217727, 939524095, 2147483647, 4294967295, 8589934591, 17179869183, 34359738367]
theorem hogsheadlaw15_ValueKeys.tab20 : rtab .any (opsOf Tryd.f5 20) = hogsheadlaw15_ValueKeys.T20 := by kernel_rfl
theorem hogsheadlaw15_ValueKeys.bits20 : qBr hogsheadlaw15_ValueKeys.T20.2 hogsheadlaw15_ValueKeys.B20 = true := by kernel_rfl
def hogsheadlaw15_ValueKeys.T25 : Bool × List (List Nat × List Nat) := (true, [([], []), ([0], [0]), ([], []), ([2], [2]), ([1, 3], [1, 3]), ([4], [4]), ([], []), ([6], [6]), ([], []), ([7, 8], [7, 8]), ([9], [9]), ([5, 10], [5, 10])])
def hogsheadlaw15_ValueKeys.B25 : List Nat := [0, 1, 0, 4, 15, 31, 0, 64, 0, 448, 960, 2047]
theorem hogsheadlaw15_ValueKeys.tab25 : rtab .any (opsOf Tryd.f5 25) = hogsheadlaw15_ValueKeys.T25 := by kernel_rfl
theorem hogsheadlaw15_ValueKeys.bits25 : qBr hogsheadlaw15_ValueKeys.T25.2 hogsheadlaw15_ValueKeys.B25 = true := by kernel_rfl
def hogsheadlaw15_ValueKeys.T31 : Bool × List (List Nat × List Nat) := (true, [([], []), ([], []), ([0, 1], [0, 1]), ([2], [2]), ([], []), ([], []), ([4, 5], [4, 5]), ([6], [6]), ([3, 7], [3, 7])])
def hogsheadlaw15_ValueKeys.B31 : List Nat := [0, 0, 3, 7, 0, 0, 48, 112, 255]
theorem hogsheadlaw15_ValueKeys.tab31 : rtab .any (opsOf Tryd.f5 31) = hogsheadlaw15_ValueKeys.T31 := by kernel_rfl
theorem hogsheadlaw15_ValueKeys.bits31 : qBr hogsheadlaw15_ValueKeys.T31.2 hogsheadlaw15_ValueKeys.B31 = true := by kernel_rfl
def hogsheadlaw15_ValueKeys.T33 : Bool × List (List Nat × List Nat) := (true, [([], []), ([], []), ([], []), ([1, 2], [1, 2]), ([3], [3]), ([0, 4], [0, 4]), ([5], [5]), ([6], [6]), ([6], [6]), ([], []), ([9, 7, 5, 0, 1, 2, 3, 4, 5, 6, 7, 9], [7, 9]), ([8, 10, 0, 1, 2, 3, 4, 5, 6, 7, 8, 9, 10], [8])])
def hogsheadlaw15_ValueKeys.B33 : List Nat := [0, 0, 0, 6, 14, 31, 63, 127, 127, 0, 767, 2047]
theorem hogsheadlaw15_ValueKeys.tab33 : rtab .any (opsOf Tryd.f5 33) = hogsheadlaw15_ValueKeys.T33 := by kernel_rfl
theorem hogsheadlaw15_ValueKeys.bits33 : qBr hogsheadlaw15_ValueKeys.T33.2 hogsheadlaw15_ValueKeys.B33 = true := by kernel_rfl
def hogsheadlaw15_ValueKeys.T34 : Bool × List (List Nat × List Nat) := (true, [([], []), ([0], [0]), ([1], [1]), ([2], [2]), ([2], [2]), ([2], [2]), ([4, 5, 2], [2, 4, 5]), ([6, 2], [2, 6]), ([3, 7, 2, 2], [2, 3, 7]), ([8, 2], [2, 8]), ([2, 9], [2, 9])])
def hogsheadlaw15_ValueKeys.B34 : List Nat := [0, 1, 3, 7, 7, 7, 55, 119, 255, 511, 1023]
theorem hogsheadlaw15_ValueKeys.tab34 : rtab .any (opsOf Tryd.f5 34) = hogsheadlaw15_ValueKeys.T34 := by kernel_rfl
theorem hogsheadlaw15_ValueKeys.bits34 : qBr hogsheadlaw15_ValueKeys.T34.2 hogsheadlaw15_ValueKeys.B34 = true := by kernel_rfl
def hogsheadlaw15_ValueKeys.bm (n k : Nat) : Array Bool := ((List.range n).map fun i => Nat.testBit k i).toArray
end Go.Proofs.YtbnoihpooeombaaDoor.P
