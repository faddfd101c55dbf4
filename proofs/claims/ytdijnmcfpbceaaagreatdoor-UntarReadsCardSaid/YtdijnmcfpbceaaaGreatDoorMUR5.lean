/- Part 5 of what is behind the row RowUntarReads: XSF, Pf36, Pf34, XSG, XSH, XSP, Pf13, X3, Pf25, XSQ. -/
import Derived.Test.YtdijnmcfpbceaaaGreatDoorMUR4
import Derived.Test.YtdijnmcfpbceaaaGreatDoorProg
import Derived.Below
import Derived.Deep.Draws
import Derived.Deep.AppendLies
import Derived.Maps.AppendAt
import Derived.OwnWalk
import Derived.Laws.BytesArg
import Derived.Laws.MakeOwn
import Derived.Laws.OwnMore
import Derived.Deep.OwnRows
import Derived.Tactics
import Derived.Lib.ConvBytes
import Derived.Laws.Slices
import Derived.WalkKit
import Derived.KernelRfl
import Derived.RowKit3
import Derived.Deep.LoopGhost
import Derived.Deep.QuietTactic
import Derived.BigQuiet
import Derived.WideLaws
import Derived.Deep.DeepCutAuto
import Derived.Deep.CutBlock
import Derived.Deep.RegionHeld3
import Derived.Laws.Rows
import Derived.Lib.AppendStr
import Derived.ArgAppend
import Derived.Laws.IdiomCopy
import Derived.OrdersHeld
import Derived.Laws.BitsLemmas
import Derived.RowKit
import Derived.Laws.Cover1
import Derived.Laws.StructEq
import Derived.Lib.ItoaNum
import Derived.Lib.ItoaMem
import Derived.Maps.OwnOps
import Derived.Maps.Views
import Derived.StringKeys
import Derived.Outline
import Derived.WalkLawsBesides
import Derived.WalkSpells
import Derived.LoopTactic
import Derived.Laws.Bits64b
import Derived.Lib.Hide
import Derived.Laws.NewBlocks
import Derived.Lib.AppendIntMem
import Derived.Shelf.Strings.Builder1
import Derived.Shelf.Strings.Builder2
import Derived.Shelf.Small.Utf8
import Derived.Shelf.Small.Strs
import Derived.Shelf.Strings.BuilderF
import Derived.Shelf.Strings.BuilderK
import Derived.Shelf.Strconv.Atoi
import Derived.Shelf.Strconv.Itoa0
import Derived.Shelf.Strconv.Itoa1
import Derived.Shelf.LaysM
import Derived.Shelf.Strconv.Itoa2
import Derived.Shelf.Strconv.Itoa3
import Derived.Shelf.Strconv.Itoa4
import Derived.Shelf.Strconv.AtoiErrFast
import Derived.Shelf.Strconv.ParseIntEmpty
import Derived.Shelf.Strconv.AtoiFail
import Derived.Shelf.Strconv.Clone
import Derived.Shelf.Strconv.SyntaxError
import Derived.Shelf.LaysC
import Derived.Shelf.Strconv.ToError
import Derived.Shelf.Strconv.Lower
import Derived.Shelf.Strconv.ParseUint10
import Derived.Shelf.Strconv.ParseUint10Empty
import Derived.Shelf.Strconv.ParseUint10Any
import Derived.Shelf.Strconv.ParseInt10
import Derived.Shelf.Strconv.AtoiLong
import Derived.Shelf.Strconv.AtoiInnerAll
import Derived.Shelf.Strconv.RangeError
import Derived.Shelf.Strconv.ToErrorRange
import Derived.Shelf.Strconv.AtoiAll
import Derived.Shelf.Strings.Search1
import Derived.Shelf.Strings.Search2
import Derived.Shelf.Strings.Search3
import Derived.Shelf.Strings.Cut
import Derived.Shelf.Strings.Count
import Derived.Shelf.Strings.Shaped
import Derived.Shelf.Strings.Prefix
import Derived.Shelf.Strings.Split
import Derived.Shelf.Bits.Mul64
import Derived.Shelf.Strings.Repeat
import Derived.Shelf.Unicode.DecodeSlow
import Derived.Shelf.Bytes.Small
import Derived.Lib.SplitLaws
import Derived.Lib.IndexBytes
import Derived.Lib.IndexLaws
import Derived.Lib.LastIndexByte
import Derived.Lib.IndexMore
import Derived.Lib.Bytealg
import Derived.Laws.BitsAllLaws
import Derived.Lib.Repeat
import Derived.Lib.AppendZerosOnto
import Derived.Lib.BufferWrite
import Derived.Laws.CopyOwn
import Derived.Lib.Strings
import Derived.Lib.AtoiTie
namespace Go.Proofs.YtdijnmcfpbceaaaGreatDoor.X
open Go.RowKit Go.Proofs.YtdijnmcfpbceaaaGreatDoorW.PrintWords Go.Proofs.YtdijnmcfpbceaaaGreatDoorW.PrintLast Go.Proofs.YtdijnmcfpbceaaaGreatDoorW.PrintMore Go.Proofs.YtdijnmcfpbceaaaGreatDoor.P
set_option linter.unusedVariables false
set_option linter.unusedSimpArgs false
set_option maxHeartbeats 8000000 in
set_option maxRecDepth 100000 in
theorem refBad_calls (A0 : Option Addr) (c0 : Nat) (t : List S47) (w : World) (hC : Kd.C k47 w A0 t.length t) (hc : t.length ≤ c0) (hn : t.length ≤ 100000) (hs : ∀ n ∈ t, n.f0.size ≤ 100000 ∧ n.f2.size ≤ 100000) :
    Calls Tryz.prog 45 #[.slice A0 t.length c0] w fun e w' => ∃ r : Int, e = .returned (.int .i64 r) ∧ decide (r < 0) = treeB t ∧ Below w.heap.size w w' := by
  have X := Aside0.mk hC
  have HS := Aside0.mk hs
  clear hC hs
  go_enter Tryz.func45, Tryz.ntmps45
  by_cases h0 : t.length = 0
  · have ht : t = [] := List.eq_nil_of_length_eq_zero h0
    have h00 : ((t.length : Int) == 0) = true := by rw [h0]; rfl
    have HF := Aside0.mk (show treeB t = false from by rw [ht]; rfl)
    clear ht
    go_wp2_with fail
    go_ret
    exact ⟨0, rfl, by rw [HF.out]; rfl, Below.refl _ _⟩
  · have h00 : ((t.length : Int) == 0) = false := beq_eq_false_iff_ne.2 (by omega)
    have HB0 := Aside0.mk (Below.refl w.heap.size w)
    have HT0 := Aside0.mk (show treeB t = treeR (t.take 0) (t.drop 0) from by unfold treeB; cases t with | nil => exact absurd rfl h0 | cons a l => simp)
    have hpos : 0 < t.length := by omega
    have hposd : decide (0 < t.length) = true := decide_eq_true hpos
    have hposi : decide ((0 : Int) < (t.length : Int)) = true := decide_eq_true (by omega)
    go_wp2_with fail
    go_loopw [3] (fun v3 wr => ∃ (i : Nat), v3 = .int .i64 i ∧ i ≤ t.length ∧ Aside0 (treeB t = treeR (t.take i) (t.drop i)) ∧ Aside0 (Below w.heap.size w wr)) (fun a _ => t.length - (intOf a).toNat)
    case atStart => exact ⟨0, rfl, by omega, HT0, HB0⟩
    case round =>
      clear HT0 HB0
      obtain ⟨i, rfl, hi, HT, HB⟩ := hrel
      by_cases hil : i < t.length
      · have hic : decide ((i : Int) < (t.length : Int)) = true := decide_eq_true (by omega)
        have hi0 : 0 ≤ (i : Int) := by omega
        obtain ⟨ad, rfl, z0, z1, z2⟩ := at_T47 (Kd.C_below X.out HB.out) (i : Int) (by omega) (by omega)
        simp only [Int.toNat_natCast] at z0 z1 z2
        have HX := Aside0.mk (rdN_get t i hil)
        have HZ := Aside0.mk (HS.out t[i] (List.getElem_mem _))
        rw [← HX.out] at HZ
        generalize hx : rd_T47 t (i : Int) = x at *
        have HTR := Aside0.mk (HT.out.trans (treeR_step t i hil))
        rw [← HX.out] at HTR
        clear HT
        obtain ⟨b400, h400⟩ : ∃ b, decide ((i : Int) ≥ 400) = b := ⟨_, rfl⟩
        have h400b : decide ((400 : Int) ≤ (i : Int)) = b400 := h400
        obtain ⟨bg, hbg⟩ : ∃ b, goodN x = b := ⟨_, rfl⟩
        have HGood := Aside0.mk (show ∀ W, Calls Tryz.prog 62 #[.agg #[.string x.f0, .int .i64 x.f1, .string x.f2]] W (fun e w' => e = .returned (.bool bg) ∧ Below W.heap.size W w') from fun W => by
          obtain ⟨K, hK⟩ := refGood_eq x HZ.out.1 HZ.out.2
          exact hogsheadref2_Good.calls K x.f0 x.f1 x.f2 bg W (by rw [← hbg]; exact hK K (Nat.le_refl _)))
        rw [hbg] at HTR
        have HBG := Aside0.mk hbg
        clear hbg
        have HK0 := Aside0.mk z0
        have HK1 := Aside0.mk z1
        have HK2 := Aside0.mk z2
        cases b400 with
        | true =>
          have HF := Aside0.mk (show treeB t = false from by
            have : ¬ i < 400 := by have := of_decide_eq_true h400; omega
            rw [HTR.out, decide_eq_false this]
            rfl)
          go_wp2_with fail
          try go_quiet (fail)
          go_wp2_with fail
          go_ret
          exact ⟨i, rfl, by rw [HF.out]; exact decide_eq_false (by omega), HB.out⟩
        | false =>
          have hi400 : i < 400 := by have := of_decide_eq_false h400; omega
          go_wp2_with fail
          refine (HGood.out wr).mono ?_
          rintro e w1 ⟨rfl, hb1⟩
          have HB1 := Aside0.mk (below_step HB.out hb1)
          have z0 := pw_cell_below hb1 HK0.out
          have z1 := pw_cell_below hb1 HK1.out
          have z2 := pw_cell_below hb1 HK2.out
          clear HK0 HK1 HK2 HB hb1 h400 h400b
          have HK0 := Aside0.mk z0
          cases bg with
          | false =>
            have HF := Aside0.mk (show treeB t = false from by rw [HTR.out, Bool.and_false, Bool.false_and, Bool.false_and])
            go_wp2_with fail
            go_ret
            exact ⟨i, rfl, by rw [HF.out]; exact decide_eq_false (by omega), HB1.out⟩
          | true =>
            have HTS := Aside0.mk (HTR.out.trans (by rw [decide_eq_true hi400, Bool.true_and, Bool.true_and]))
            clear HTR
            by_cases hiz : i = 0
            · subst hiz
              have hq : ((0 : Int) == 0) = true := rfl
              have hq2 : (((0 : Nat) : Int) == 0) = true := rfl
              have y0 := z0
              (try rw [show 0 * 3 = 0 from rfl] at y0)
              (try rw [Addr.add_zero'] at y0)
              have hfo : followsN (t.take 0) x = decide (x.f0.size = 0) := rfl
              rw [hfo] at HTS
              obtain ⟨be, hbe⟩ : ∃ b, (x.f0.toList != ([] : List UInt8)) = b := ⟨_, rfl⟩
              have hbe2 : (x.f0.toList == ([] : List UInt8)) = !be := by rw [← hbe, bne, Bool.not_not]
              have HE := Aside0.mk (show decide (x.f0.size = 0) = !be from by
                rw [← hbe2, ByteArray.toList_eq, ← data_length]
                generalize x.f0.data.toList = l
                cases l with
                | nil => rfl
                | cons c l => simp)
              cases be with
              | true =>
                have HF := Aside0.mk (show treeB t = false from by rw [HTS.out, HE.out]; rfl)
                go_wp2_with fail
                go_ret
                exact ⟨0, rfl, by rw [HF.out]; rfl, HB1.out⟩
              | false =>
                have HF := Aside0.mk (show treeB t = treeR (t.take 1) (t.drop 1) from by rw [HTS.out, HE.out]; rfl)
                go_wp2_with fail
                exact ⟨⟨1, rfl, by omega, HF, HB1⟩, by simp [intOf]; omega⟩
            · have hq2 : ((i : Int) == 0) = false := beq_eq_false_iff_ne.2 (by omega)
              obtain ⟨pa, ok, hpo⟩ : ∃ pa ok, (if x.f0.data.toList ≠ [] ∧ pathB x.f0.data.toList = true then (upS x.f0, true) else ((⟨#[]⟩ : ByteArray), false)) = (pa, ok) := ⟨_, _, rfl⟩
              have HPar := Aside0.mk (show ∀ W, Calls Tryz.prog 63 #[.string x.f0] W (fun e w' => e = .returned (.tuple #[.string pa, .bool ok]) ∧ Below W.heap.size W w') from fun W => by
                obtain ⟨K, hK⟩ := refParent_eq x.f0 HZ.out.1
                exact hogsheadref1_Parent.calls K x.f0 pa ok W (by rw [← hpo]; exact hK K (Nat.le_refl _)))
              have HPO := Aside0.mk hpo
              clear hpo
              go_wp2_with fail
              refine (HPar.out w1).mono ?_
              rintro e w2 ⟨rfl, hb2⟩
              have HB2 := Aside0.mk (below_step HB1.out hb2)
              clear HB1 hb2 z0 z1 z2 HK0
              obtain ⟨ad', e', z0, z1, z2⟩ := at_T47 (Kd.C_below X.out HB2.out) (i : Int) (by omega) (by omega)
              cases e'
              simp only [Int.toNat_natCast] at z0 z1 z2
              rw [hx] at z0
              obtain ⟨ad', e', v0, v1, v2⟩ := at_T47 (Kd.C_below X.out HB2.out) ((i - 1 : Nat) : Int) (by omega) (by omega)
              cases e'
              simp only [Int.toNat_natCast] at v0 v1 v2
              have hwp : wrap64 ((i : Int) - 1) = ((i - 1 : Nat) : Int) := by unfold wrap64; omega
              have HY := Aside0.mk (rdN_get t (i - 1) (by omega))
              generalize hy : rd_T47 t ((i - 1 : Nat) : Int) = y at *
              go_wp2_with fail
              have HZ0 := Aside0.mk z0
              have HV0 := Aside0.mk v0
              have HDir := Aside0.mk (show ∃ b, b = dirAt (t.take i) pa ∧ ∀ W, Below w.heap.size w W → Calls Tryz.prog 64 #[.slice (some ad) i c0, .string pa] W (fun e w' => e = .returned (.bool b) ∧ Below W.heap.size W w') from ⟨_, rfl, fun W hW => by
                obtain ⟨K, hK⟩ := dir_eq (t.take i) pa (by rw [List.length_take]; omega)
                have hlen : (t.take i).length = i := by rw [List.length_take]; omega
                have hcall := hogsheadref2_dir.calls K (some ad) c0 (t.take i) pa _ W (Kd.C_take (Kd.C_below X.out hW) (by omega)) (by omega) (hK K (Nat.le_refl _))
                rw [hlen] at hcall
                exact hcall.mono (by rintro e W' ⟨rfl, hd⟩; exact ⟨rfl, hd.below⟩)⟩)
              obtain ⟨bd, hbd, hdir⟩ := HDir.out
              clear HDir
              have HDir := Aside0.mk hdir
              have HBD := Aside0.mk hbd
              clear hdir hbd
              have hlast : (t.take i).getLast? = some t[i - 1] := by
                rw [List.getLast?_eq_getElem?, List.length_take, List.getElem?_take, Nat.min_eq_left (by omega), if_pos (by omega), List.getElem?_eq_getElem (by omega)]
              have hpath : pathB x.f0.data.toList = true := by
                have hg := HBG.out
                unfold goodN at hg
                rw [Bool.and_eq_true, Bool.and_eq_true] at hg
                exact hg.1.1
              have HFO := Aside0.mk (show followsN (t.take i) x = (decide (x.f0.size ≠ 0) && ltB y.f0 x.f0 && dirAt (t.take i) (upS x.f0)) from by
                unfold followsN
                rw [hlast, hpath, Bool.and_true, ← HY.out])
              rw [HFO.out] at HTS
              clear HFO hlast
              have hnz : (x.f0.data.toList ≠ ([] : List UInt8)) ↔ x.f0.size ≠ 0 := by
                rw [← data_length]
                exact not_congr List.length_eq_zero_iff.symm
              obtain ⟨bl, hcmp⟩ : ∃ b, Op.bytesLess y.f0.toList x.f0.toList = b := ⟨_, rfl⟩
              have hlt : ltB y.f0 x.f0 = bl := hcmp
              rw [hlt] at HTS
              have hwi : IntKind.i64.wrap ((i : Int) - 1) = ((i - 1 : Nat) : Int) := (i64_w _).trans hwp
              have hj0 : 0 ≤ ((i - 1 : Nat) : Int) := by omega
              have hj1 : ((i - 1 : Nat) : Int) < (t.length : Int) := by omega
              have hj2 : i - 1 < t.length := by omega
              have hicn : i ≤ c0 := by omega
              have hicc : decide ((i : Int) ≤ (c0 : Int)) = true := decide_eq_true (by omega)
              have hicl : decide ((i : Int) ≤ (t.length : Int)) = true := decide_eq_true (by omega)
              have hjd : decide ((0 : Int) ≤ ((i - 1 : Nat) : Int)) = true := decide_eq_true hj0
              have hjd1 : decide (((i - 1 : Nat) : Int) < (t.length : Int)) = true := decide_eq_true hj1
              have hjd2 : decide (i - 1 < t.length) = true := decide_eq_true hj2
              clear z0 z1 z2 v0 v1 v2 hlt
              have HP := Aside0.mk hpath
              have HNZ := Aside0.mk hnz
              clear hpath hnz
              cases bl with
              | false =>
                have HF := Aside0.mk (show treeB t = false from by rw [HTS.out, Bool.and_false, Bool.false_and, Bool.false_and])
                clear HTS
                have HLE := Aside0.mk (show Op.bytesLess x.f0.toList y.f0.toList = true ∨ x.f0.toList = y.f0.toList from by
                  cases hq : Op.bytesLess x.f0.toList y.f0.toList with
                  | true => exact .inl rfl
                  | false => exact .inr (blt_total _ _ hq hcmp))
                refine start_ (n := 24) (S := fun w' => Below w2.heap.size w2 w') (ds := []) (bmG 24 0) (by kernel_rfl) rfl (by kernel_rfl) (below_drew1 (Below.refl _ _)) (fun hS => ?_)
                generalize w2.drew = wd at hS ⊢
                refine pure_ (i := 0) (N := some 42) (v := ?_) (a' := ?_) (bmG 24 1) rfl rfl (by kernel_rfl) (fun _ _ _ h => h) (Or.inl ⟨by rfl, ?_⟩) ?_ ?_
                rotate_left
                · intro w'
                  go_simp
                  (try simp only [hwi, hcmp])
                  with_reducible rfl
                rotate_left
                · simp only [Act.put, List.setIfInBounds_toArray, List.set_cons_zero, List.set_cons_succ, i64_w, i32_w]
                  rfl
                refine pure_ (i := 1) (N := some 43) (v := ?_) (a' := ?_) (bmG 24 3) rfl rfl (by kernel_rfl) (fun _ _ _ h => h) (Or.inl ⟨by rfl, ?_⟩) ?_ ?_
                rotate_left
                · intro w'
                  go_simp
                  (try simp only [hwi, hcmp])
                  with_reducible rfl
                rotate_left
                · simp only [Act.put, List.setIfInBounds_toArray, List.set_cons_zero, List.set_cons_succ, i64_w, i32_w]
                  rfl
                refine pure_ (i := 2) (N := some 44) (v := ?_) (a' := ?_) (bmG 24 7) rfl rfl (by kernel_rfl) (fun _ _ _ h => h) (Or.inl ⟨by rfl, ?_⟩) ?_ ?_
                rotate_left
                · intro w'
                  go_simp
                  (try simp only [hwi, hcmp])
                  with_reducible rfl
                rotate_left
                · simp only [Act.put, List.setIfInBounds_toArray, List.set_cons_zero, List.set_cons_succ, i64_w, i32_w]
                  rfl
                refine pure_ (i := 3) (N := some 45) (v := ?_) (a' := ?_) (bmG 24 15) rfl rfl (by kernel_rfl) (fun _ _ _ h => h) (Or.inl ⟨by rfl, ?_⟩) ?_ ?_
                rotate_left
                · intro w'
                  go_simp
                  (try simp only [hwi, hcmp])
                  with_reducible rfl
                rotate_left
                · simp only [Act.put, List.setIfInBounds_toArray, List.set_cons_zero, List.set_cons_succ, i64_w, i32_w]
                  rfl
                refine take_ (i := 4) (N := some 46) (v := ?_) (a' := ?_) (bmG 24 31) rfl rfl (by kernel_rfl) (fun _ _ _ h => h) (Or.inl ⟨by rfl, ?_⟩) hS ?_ ?_
                rotate_left
                · intro w' hS
                  have s0 := pw_cell_below hS HZ0.out
                  have s1 := pw_cell_below hS HV0.out
                  go_simp
                  with_reducible rfl
                rotate_left
                · simp only [Act.put, List.setIfInBounds_toArray, List.set_cons_zero, List.set_cons_succ, i64_w, i32_w]
                  rfl
                refine pure_ (i := 5) (N := some 47) (v := ?_) (a' := ?_) (bmG 24 63) rfl rfl (by kernel_rfl) (fun _ _ _ h => h) (Or.inl ⟨by rfl, ?_⟩) ?_ ?_
                rotate_left
                · intro w'
                  go_simp
                  (try simp only [hwi, hcmp])
                  with_reducible rfl
                rotate_left
                · simp only [Act.put, List.setIfInBounds_toArray, List.set_cons_zero, List.set_cons_succ, i64_w, i32_w]
                  rfl
                refine pure_ (i := 6) (N := some 48) (v := ?_) (a' := ?_) (bmG 24 127) rfl rfl (by kernel_rfl) (fun _ _ _ h => h) (Or.inl ⟨by rfl, ?_⟩) ?_ ?_
                rotate_left
                · intro w'
                  go_simp
                  (try simp only [hwi, hcmp])
                  with_reducible rfl
                rotate_left
                · simp only [Act.put, List.setIfInBounds_toArray, List.set_cons_zero, List.set_cons_succ, i64_w, i32_w]
                  rfl
                refine pure_ (i := 7) (N := some 49) (v := .int .i64 ((i - 1 : Nat) : Int)) (a' := ?_) (bmG 24 255) rfl rfl (by kernel_rfl) (fun _ _ _ h => h) (Or.inl ⟨by rfl, ?_⟩) ?_ ?_
                · intro w'
                  go_simp
                  (try simp only [hwi, hcmp])
                  (try rfl)
                rotate_left
                · simp only [Act.put, List.setIfInBounds_toArray, List.set_cons_zero, List.set_cons_succ, i64_w, i32_w]
                  rfl
                refine pure_ (i := 8) (N := some 50) (v := ?_) (a' := ?_) (bmG 24 511) rfl rfl (by kernel_rfl) (fun _ _ _ h => h) (Or.inl ⟨by rfl, ?_⟩) ?_ ?_
                rotate_left
                · intro w'
                  go_simp
                  (try simp only [hwi, hcmp])
                  with_reducible rfl
                rotate_left
                · simp only [Act.put, List.setIfInBounds_toArray, List.set_cons_zero, List.set_cons_succ, i64_w, i32_w]
                  rfl
                refine pure_ (i := 9) (N := some 51) (v := ?_) (a' := ?_) (bmG 24 1023) rfl rfl (by kernel_rfl) (fun _ _ _ h => h) (Or.inl ⟨by rfl, ?_⟩) ?_ ?_
                rotate_left
                · intro w'
                  go_simp
                  (try simp only [hwi, hcmp])
                  with_reducible rfl
                rotate_left
                · simp only [Act.put, List.setIfInBounds_toArray, List.set_cons_zero, List.set_cons_succ, i64_w, i32_w]
                  rfl
                refine take_ (i := 10) (N := some 52) (v := ?_) (a' := ?_) (bmG 24 2047) rfl rfl (by kernel_rfl) (fun _ _ _ h => h) (Or.inl ⟨by rfl, ?_⟩) hS ?_ ?_
                rotate_left
                · intro w' hS
                  have s0 := pw_cell_below hS HZ0.out
                  have s1 := pw_cell_below hS HV0.out
                  go_simp
                  with_reducible rfl
                rotate_left
                · simp only [Act.put, List.setIfInBounds_toArray, List.set_cons_zero, List.set_cons_succ, i64_w, i32_w]
                  rfl
                refine pure_ (i := 11) (N := some 53) (v := .bool true) (a' := ?_) (bmG 24 4095) rfl rfl (by kernel_rfl) (fun _ _ _ h => h) (Or.inl ⟨by rfl, ?_⟩) ?_ ?_
                · intro w'
                  go_simp
                  (try simp only [hwi, hcmp])
                  exact HLE.out
                  (try rfl)
                rotate_left
                · simp only [Act.put, List.setIfInBounds_toArray, List.set_cons_zero, List.set_cons_succ, i64_w, i32_w]
                  rfl
                refine pure_ (i := 12) (N := some 54) (v := ?_) (a' := ?_) (bmG 24 8191) rfl rfl (by kernel_rfl) (fun _ _ _ h => h) (Or.inl ⟨by rfl, ?_⟩) ?_ ?_
                rotate_left
                · intro w'
                  go_simp
                  (try simp only [hwi, hcmp])
                  with_reducible rfl
                rotate_left
                · simp only [Act.put, List.setIfInBounds_toArray, List.set_cons_zero, List.set_cons_succ, i64_w, i32_w]
                  rfl
                refine pure_ (i := 13) (N := some 55) (v := undef) (a' := ?_) (bmG 24 16383) rfl rfl (by kernel_rfl) (fun _ _ _ h => h) (Or.inr ⟨by rfl, rfl⟩) ?_ ?_
                rotate_left
                · simp only [Act.put, List.setIfInBounds_toArray, List.set_cons_zero, List.set_cons_succ, i64_w, i32_w]
                  rfl
                refine pure_ (i := 14) (N := some 56) (v := undef) (a' := ?_) (bmG 24 32767) rfl rfl (by kernel_rfl) (fun _ _ _ h => h) (Or.inr ⟨by rfl, rfl⟩) ?_ ?_
                rotate_left
                · simp only [Act.put, List.setIfInBounds_toArray, List.set_cons_zero, List.set_cons_succ, i64_w, i32_w]
                  rfl
                refine pure_ (i := 15) (N := some 57) (v := ?_) (a' := ?_) (bmG 24 65535) rfl rfl (by kernel_rfl) (fun _ _ _ h => h) (Or.inl ⟨by rfl, ?_⟩) ?_ ?_
                rotate_left
                · intro w'
                  go_simp
                  (try simp only [hwi, hcmp])
                  with_reducible rfl
                rotate_left
                · simp only [Act.put, List.setIfInBounds_toArray, List.set_cons_zero, List.set_cons_succ, i64_w, i32_w]
                  rfl
                refine pure_ (i := 16) (N := some 58) (v := ?_) (a' := ?_) (bmG 24 131071) rfl rfl (by kernel_rfl) (fun _ _ _ h => h) (Or.inl ⟨by rfl, ?_⟩) ?_ ?_
                rotate_left
                · intro w'
                  go_simp
                  (try simp only [hwi, hcmp])
                  with_reducible rfl
                rotate_left
                · simp only [Act.put, List.setIfInBounds_toArray, List.set_cons_zero, List.set_cons_succ, i64_w, i32_w]
                  rfl
                refine pure_ (i := 17) (N := some 59) (v := undef) (a' := ?_) (bmG 24 262143) rfl rfl (by kernel_rfl) (fun _ _ _ h => h) (Or.inr ⟨by rfl, rfl⟩) ?_ ?_
                rotate_left
                · simp only [Act.put, List.setIfInBounds_toArray, List.set_cons_zero, List.set_cons_succ, i64_w, i32_w]
                  rfl
                refine pure_ (i := 18) (N := some 60) (v := undef) (a' := ?_) (bmG 24 524287) rfl rfl (by kernel_rfl) (fun _ _ _ h => h) (Or.inr ⟨by rfl, rfl⟩) ?_ ?_
                rotate_left
                · simp only [Act.put, List.setIfInBounds_toArray, List.set_cons_zero, List.set_cons_succ, i64_w, i32_w]
                  rfl
                refine pure_ (i := 19) (N := some 61) (v := undef) (a' := ?_) (bmG 24 1048575) rfl rfl (by kernel_rfl) (fun _ _ _ h => h) (Or.inr ⟨by rfl, rfl⟩) ?_ ?_
                rotate_left
                · simp only [Act.put, List.setIfInBounds_toArray, List.set_cons_zero, List.set_cons_succ, i64_w, i32_w]
                  rfl
                refine pure_ (i := 20) (N := some 62) (v := undef) (a' := ?_) (bmG 24 2097151) rfl rfl (by kernel_rfl) (fun _ _ _ h => h) (Or.inr ⟨by rfl, rfl⟩) ?_ ?_
                rotate_left
                · simp only [Act.put, List.setIfInBounds_toArray, List.set_cons_zero, List.set_cons_succ, i64_w, i32_w]
                  rfl
                refine pure_ (i := 21) (N := some 63) (v := undef) (a' := ?_) (bmG 24 4194303) rfl rfl (by kernel_rfl) (fun _ _ _ h => h) (Or.inr ⟨by rfl, rfl⟩) ?_ ?_
                rotate_left
                · simp only [Act.put, List.setIfInBounds_toArray, List.set_cons_zero, List.set_cons_succ, i64_w, i32_w]
                  rfl
                refine pure_ (i := 22) (N := some 64) (v := undef) (a' := ?_) (bmG 24 8388607) rfl rfl (by kernel_rfl) (fun _ _ _ h => h) (Or.inr ⟨by rfl, rfl⟩) ?_ ?_
                rotate_left
                · simp only [Act.put, List.setIfInBounds_toArray, List.set_cons_zero, List.set_cons_succ, i64_w, i32_w]
                  rfl
                refine pure_ (i := 23) (N := some 65) (v := ?_) (a' := ?_) (bmG 24 16777215) rfl rfl (by kernel_rfl) (fun _ _ _ h => h) (Or.inl ⟨by rfl, ?_⟩) ?_ ?_
                rotate_left
                · intro w'
                  go_simp
                  (try simp only [hwi, hcmp])
                  with_reducible rfl
                rotate_left
                · simp only [Act.put, List.setIfInBounds_toArray, List.set_cons_zero, List.set_cons_succ, i64_w, i32_w]
                  rfl
                refine done_ (by kernel_rfl) ?_
                go_wp2_with fail
                go_ret
                exact ⟨i, rfl, by rw [HF.out]; exact decide_eq_false (by omega), below_step HB2.out hS⟩
              | true =>
                have HLE := Aside0.mk (show Op.bytesLess x.f0.toList y.f0.toList = false ∧ ¬ x.f0.toList = y.f0.toList from by
                  refine ⟨?_, fun e => ?_⟩
                  · cases hq : Op.bytesLess x.f0.toList y.f0.toList with
                    | false => rfl
                    | true =>
                      have := blt_trans _ _ _ hcmp hq
                      rw [blt_irrefl] at this
                      cases this
                  · rw [e, blt_irrefl] at hcmp
                    cases hcmp)
                cases ok with
                | false =>
                  have HF := Aside0.mk (show treeB t = false from by
                    have h := HPO.out
                    by_cases hz : x.f0.size = 0
                    · rw [HTS.out, decide_eq_false (fun x => x hz)]
                      rfl
                    · rw [if_pos ⟨HNZ.out.2 hz, HP.out⟩] at h
                      cases h)
                  clear HTS
                  refine start_ (n := 24) (S := fun w' => Below w2.heap.size w2 w') (ds := []) (bmG 24 0) (by kernel_rfl) rfl (by kernel_rfl) (below_drew1 (Below.refl _ _)) (fun hS => ?_)
                  generalize w2.drew = wd at hS ⊢
                  refine pure_ (i := 0) (N := some 42) (v := ?_) (a' := ?_) (bmG 24 1) rfl rfl (by kernel_rfl) (fun _ _ _ h => h) (Or.inl ⟨by rfl, ?_⟩) ?_ ?_
                  rotate_left
                  · intro w'
                    go_simp
                    (try simp only [hwi, hcmp])
                    with_reducible rfl
                  rotate_left
                  · simp only [Act.put, List.setIfInBounds_toArray, List.set_cons_zero, List.set_cons_succ, i64_w, i32_w]
                    rfl
                  refine pure_ (i := 1) (N := some 43) (v := ?_) (a' := ?_) (bmG 24 3) rfl rfl (by kernel_rfl) (fun _ _ _ h => h) (Or.inl ⟨by rfl, ?_⟩) ?_ ?_
                  rotate_left
                  · intro w'
                    go_simp
                    (try simp only [hwi, hcmp])
                    with_reducible rfl
                  rotate_left
                  · simp only [Act.put, List.setIfInBounds_toArray, List.set_cons_zero, List.set_cons_succ, i64_w, i32_w]
                    rfl
                  refine pure_ (i := 2) (N := some 44) (v := ?_) (a' := ?_) (bmG 24 7) rfl rfl (by kernel_rfl) (fun _ _ _ h => h) (Or.inl ⟨by rfl, ?_⟩) ?_ ?_
                  rotate_left
                  · intro w'
                    go_simp
                    (try simp only [hwi, hcmp])
                    with_reducible rfl
                  rotate_left
                  · simp only [Act.put, List.setIfInBounds_toArray, List.set_cons_zero, List.set_cons_succ, i64_w, i32_w]
                    rfl
                  refine pure_ (i := 3) (N := some 45) (v := ?_) (a' := ?_) (bmG 24 15) rfl rfl (by kernel_rfl) (fun _ _ _ h => h) (Or.inl ⟨by rfl, ?_⟩) ?_ ?_
                  rotate_left
                  · intro w'
                    go_simp
                    (try simp only [hwi, hcmp])
                    with_reducible rfl
                  rotate_left
                  · simp only [Act.put, List.setIfInBounds_toArray, List.set_cons_zero, List.set_cons_succ, i64_w, i32_w]
                    rfl
                  refine take_ (i := 4) (N := some 46) (v := ?_) (a' := ?_) (bmG 24 31) rfl rfl (by kernel_rfl) (fun _ _ _ h => h) (Or.inl ⟨by rfl, ?_⟩) hS ?_ ?_
                  rotate_left
                  · intro w' hS
                    have s0 := pw_cell_below hS HZ0.out
                    have s1 := pw_cell_below hS HV0.out
                    go_simp
                    with_reducible rfl
                  rotate_left
                  · simp only [Act.put, List.setIfInBounds_toArray, List.set_cons_zero, List.set_cons_succ, i64_w, i32_w]
                    rfl
                  refine pure_ (i := 5) (N := some 47) (v := ?_) (a' := ?_) (bmG 24 63) rfl rfl (by kernel_rfl) (fun _ _ _ h => h) (Or.inl ⟨by rfl, ?_⟩) ?_ ?_
                  rotate_left
                  · intro w'
                    go_simp
                    (try simp only [hwi, hcmp])
                    with_reducible rfl
                  rotate_left
                  · simp only [Act.put, List.setIfInBounds_toArray, List.set_cons_zero, List.set_cons_succ, i64_w, i32_w]
                    rfl
                  refine pure_ (i := 6) (N := some 48) (v := ?_) (a' := ?_) (bmG 24 127) rfl rfl (by kernel_rfl) (fun _ _ _ h => h) (Or.inl ⟨by rfl, ?_⟩) ?_ ?_
                  rotate_left
                  · intro w'
                    go_simp
                    (try simp only [hwi, hcmp])
                    with_reducible rfl
                  rotate_left
                  · simp only [Act.put, List.setIfInBounds_toArray, List.set_cons_zero, List.set_cons_succ, i64_w, i32_w]
                    rfl
                  refine pure_ (i := 7) (N := some 49) (v := .int .i64 ((i - 1 : Nat) : Int)) (a' := ?_) (bmG 24 255) rfl rfl (by kernel_rfl) (fun _ _ _ h => h) (Or.inl ⟨by rfl, ?_⟩) ?_ ?_
                  · intro w'
                    go_simp
                    (try simp only [hwi, hcmp])
                    (try rfl)
                  rotate_left
                  · simp only [Act.put, List.setIfInBounds_toArray, List.set_cons_zero, List.set_cons_succ, i64_w, i32_w]
                    rfl
                  refine pure_ (i := 8) (N := some 50) (v := ?_) (a' := ?_) (bmG 24 511) rfl rfl (by kernel_rfl) (fun _ _ _ h => h) (Or.inl ⟨by rfl, ?_⟩) ?_ ?_
                  rotate_left
                  · intro w'
                    go_simp
                    (try simp only [hwi, hcmp])
                    with_reducible rfl
                  rotate_left
                  · simp only [Act.put, List.setIfInBounds_toArray, List.set_cons_zero, List.set_cons_succ, i64_w, i32_w]
                    rfl
                  refine pure_ (i := 9) (N := some 51) (v := ?_) (a' := ?_) (bmG 24 1023) rfl rfl (by kernel_rfl) (fun _ _ _ h => h) (Or.inl ⟨by rfl, ?_⟩) ?_ ?_
                  rotate_left
                  · intro w'
                    go_simp
                    (try simp only [hwi, hcmp])
                    with_reducible rfl
                  rotate_left
                  · simp only [Act.put, List.setIfInBounds_toArray, List.set_cons_zero, List.set_cons_succ, i64_w, i32_w]
                    rfl
                  refine take_ (i := 10) (N := some 52) (v := ?_) (a' := ?_) (bmG 24 2047) rfl rfl (by kernel_rfl) (fun _ _ _ h => h) (Or.inl ⟨by rfl, ?_⟩) hS ?_ ?_
                  rotate_left
                  · intro w' hS
                    have s0 := pw_cell_below hS HZ0.out
                    have s1 := pw_cell_below hS HV0.out
                    go_simp
                    with_reducible rfl
                  rotate_left
                  · simp only [Act.put, List.setIfInBounds_toArray, List.set_cons_zero, List.set_cons_succ, i64_w, i32_w]
                    rfl
                  refine pure_ (i := 11) (N := some 53) (v := .bool false) (a' := ?_) (bmG 24 4095) rfl rfl (by kernel_rfl) (fun _ _ _ h => h) (Or.inl ⟨by rfl, ?_⟩) ?_ ?_
                  · intro w'
                    go_simp
                    (try simp only [hwi, hcmp])
                    exact HLE.out
                    (try rfl)
                  rotate_left
                  · simp only [Act.put, List.setIfInBounds_toArray, List.set_cons_zero, List.set_cons_succ, i64_w, i32_w]
                    rfl
                  refine pure_ (i := 12) (N := some 54) (v := ?_) (a' := ?_) (bmG 24 8191) rfl rfl (by kernel_rfl) (fun _ _ _ h => h) (Or.inl ⟨by rfl, ?_⟩) ?_ ?_
                  rotate_left
                  · intro w'
                    go_simp
                    (try simp only [hwi, hcmp])
                    with_reducible rfl
                  rotate_left
                  · simp only [Act.put, List.setIfInBounds_toArray, List.set_cons_zero, List.set_cons_succ, i64_w, i32_w]
                    rfl
                  refine pure_ (i := 13) (N := some 55) (v := ?_) (a' := ?_) (bmG 24 16383) rfl rfl (by kernel_rfl) (fun _ _ _ h => h) (Or.inl ⟨by rfl, ?_⟩) ?_ ?_
                  rotate_left
                  · intro w'
                    go_simp
                    (try simp only [hwi, hcmp])
                    with_reducible rfl
                  rotate_left
                  · simp only [Act.put, List.setIfInBounds_toArray, List.set_cons_zero, List.set_cons_succ, i64_w, i32_w]
                    rfl
                  refine pure_ (i := 14) (N := some 56) (v := ?_) (a' := ?_) (bmG 24 32767) rfl rfl (by kernel_rfl) (fun _ _ _ h => h) (Or.inl ⟨by rfl, ?_⟩) ?_ ?_
                  rotate_left
                  · intro w'
                    go_simp
                    (try simp only [hwi, hcmp])
                    with_reducible rfl
                  rotate_left
                  · simp only [Act.put, List.setIfInBounds_toArray, List.set_cons_zero, List.set_cons_succ, i64_w, i32_w]
                    rfl
                  refine pure_ (i := 15) (N := some 57) (v := ?_) (a' := ?_) (bmG 24 65535) rfl rfl (by kernel_rfl) (fun _ _ _ h => h) (Or.inl ⟨by rfl, ?_⟩) ?_ ?_
                  rotate_left
                  · intro w'
                    go_simp
                    (try simp only [hwi, hcmp])
                    with_reducible rfl
                  rotate_left
                  · simp only [Act.put, List.setIfInBounds_toArray, List.set_cons_zero, List.set_cons_succ, i64_w, i32_w]
                    rfl
                  refine pure_ (i := 16) (N := some 58) (v := ?_) (a' := ?_) (bmG 24 131071) rfl rfl (by kernel_rfl) (fun _ _ _ h => h) (Or.inl ⟨by rfl, ?_⟩) ?_ ?_
                  rotate_left
                  · intro w'
                    go_simp
                    (try simp only [hwi, hcmp])
                    with_reducible rfl
                  rotate_left
                  · simp only [Act.put, List.setIfInBounds_toArray, List.set_cons_zero, List.set_cons_succ, i64_w, i32_w]
                    rfl
                  refine pure_ (i := 17) (N := some 59) (v := undef) (a' := ?_) (bmG 24 262143) rfl rfl (by kernel_rfl) (fun _ _ _ h => h) (Or.inr ⟨by rfl, rfl⟩) ?_ ?_
                  rotate_left
                  · simp only [Act.put, List.setIfInBounds_toArray, List.set_cons_zero, List.set_cons_succ, i64_w, i32_w]
                    rfl
                  refine pure_ (i := 18) (N := some 60) (v := undef) (a' := ?_) (bmG 24 524287) rfl rfl (by kernel_rfl) (fun _ _ _ h => h) (Or.inr ⟨by rfl, rfl⟩) ?_ ?_
                  rotate_left
                  · simp only [Act.put, List.setIfInBounds_toArray, List.set_cons_zero, List.set_cons_succ, i64_w, i32_w]
                    rfl
                  refine pure_ (i := 19) (N := some 61) (v := undef) (a' := ?_) (bmG 24 1048575) rfl rfl (by kernel_rfl) (fun _ _ _ h => h) (Or.inr ⟨by rfl, rfl⟩) ?_ ?_
                  rotate_left
                  · simp only [Act.put, List.setIfInBounds_toArray, List.set_cons_zero, List.set_cons_succ, i64_w, i32_w]
                    rfl
                  refine pure_ (i := 20) (N := some 62) (v := undef) (a' := ?_) (bmG 24 2097151) rfl rfl (by kernel_rfl) (fun _ _ _ h => h) (Or.inr ⟨by rfl, rfl⟩) ?_ ?_
                  rotate_left
                  · simp only [Act.put, List.setIfInBounds_toArray, List.set_cons_zero, List.set_cons_succ, i64_w, i32_w]
                    rfl
                  refine pure_ (i := 21) (N := some 63) (v := undef) (a' := ?_) (bmG 24 4194303) rfl rfl (by kernel_rfl) (fun _ _ _ h => h) (Or.inr ⟨by rfl, rfl⟩) ?_ ?_
                  rotate_left
                  · simp only [Act.put, List.setIfInBounds_toArray, List.set_cons_zero, List.set_cons_succ, i64_w, i32_w]
                    rfl
                  refine pure_ (i := 22) (N := some 64) (v := undef) (a' := ?_) (bmG 24 8388607) rfl rfl (by kernel_rfl) (fun _ _ _ h => h) (Or.inr ⟨by rfl, rfl⟩) ?_ ?_
                  rotate_left
                  · simp only [Act.put, List.setIfInBounds_toArray, List.set_cons_zero, List.set_cons_succ, i64_w, i32_w]
                    rfl
                  refine pure_ (i := 23) (N := some 65) (v := ?_) (a' := ?_) (bmG 24 16777215) rfl rfl (by kernel_rfl) (fun _ _ _ h => h) (Or.inl ⟨by rfl, ?_⟩) ?_ ?_
                  rotate_left
                  · intro w'
                    go_simp
                    (try simp only [hwi, hcmp])
                    with_reducible rfl
                  rotate_left
                  · simp only [Act.put, List.setIfInBounds_toArray, List.set_cons_zero, List.set_cons_succ, i64_w, i32_w]
                    rfl
                  refine done_ (by kernel_rfl) ?_
                  go_wp2_with fail
                  go_ret
                  exact ⟨i, rfl, by rw [HF.out]; exact decide_eq_false (by omega), below_step HB2.out hS⟩
                | true =>
                  have HF := Aside0.mk (show treeB t = (bd && treeR (t.take (i + 1)) (t.drop (i + 1))) from by
                    have h := HPO.out
                    by_cases hz : x.f0.size = 0
                    · rw [if_neg (fun q => HNZ.out.1 q.1 hz)] at h
                      cases h
                    · rw [if_pos ⟨HNZ.out.2 hz, HP.out⟩] at h
                      injection h with h1 h2
                      rw [HTS.out, decide_eq_true (show x.f0.size ≠ 0 from hz), h1, ← HBD.out]
                      rfl)
                  clear HTS
                  refine start_ (n := 24) (S := fun w' => Below w2.heap.size w2 w') (ds := []) (bmG 24 0) (by kernel_rfl) rfl (by kernel_rfl) (below_drew1 (Below.refl _ _)) (fun hS => ?_)
                  generalize w2.drew = wd at hS ⊢
                  refine pure_ (i := 0) (N := some 42) (v := ?_) (a' := ?_) (bmG 24 1) rfl rfl (by kernel_rfl) (fun _ _ _ h => h) (Or.inl ⟨by rfl, ?_⟩) ?_ ?_
                  rotate_left
                  · intro w'
                    go_simp
                    (try simp only [hwi, hcmp])
                    with_reducible rfl
                  rotate_left
                  · simp only [Act.put, List.setIfInBounds_toArray, List.set_cons_zero, List.set_cons_succ, i64_w, i32_w]
                    rfl
                  refine pure_ (i := 1) (N := some 43) (v := ?_) (a' := ?_) (bmG 24 3) rfl rfl (by kernel_rfl) (fun _ _ _ h => h) (Or.inl ⟨by rfl, ?_⟩) ?_ ?_
                  rotate_left
                  · intro w'
                    go_simp
                    (try simp only [hwi, hcmp])
                    with_reducible rfl
                  rotate_left
                  · simp only [Act.put, List.setIfInBounds_toArray, List.set_cons_zero, List.set_cons_succ, i64_w, i32_w]
                    rfl
                  refine pure_ (i := 2) (N := some 44) (v := ?_) (a' := ?_) (bmG 24 7) rfl rfl (by kernel_rfl) (fun _ _ _ h => h) (Or.inl ⟨by rfl, ?_⟩) ?_ ?_
                  rotate_left
                  · intro w'
                    go_simp
                    (try simp only [hwi, hcmp])
                    with_reducible rfl
                  rotate_left
                  · simp only [Act.put, List.setIfInBounds_toArray, List.set_cons_zero, List.set_cons_succ, i64_w, i32_w]
                    rfl
                  refine pure_ (i := 3) (N := some 45) (v := ?_) (a' := ?_) (bmG 24 15) rfl rfl (by kernel_rfl) (fun _ _ _ h => h) (Or.inl ⟨by rfl, ?_⟩) ?_ ?_
                  rotate_left
                  · intro w'
                    go_simp
                    (try simp only [hwi, hcmp])
                    with_reducible rfl
                  rotate_left
                  · simp only [Act.put, List.setIfInBounds_toArray, List.set_cons_zero, List.set_cons_succ, i64_w, i32_w]
                    rfl
                  refine take_ (i := 4) (N := some 46) (v := ?_) (a' := ?_) (bmG 24 31) rfl rfl (by kernel_rfl) (fun _ _ _ h => h) (Or.inl ⟨by rfl, ?_⟩) hS ?_ ?_
                  rotate_left
                  · intro w' hS
                    have s0 := pw_cell_below hS HZ0.out
                    have s1 := pw_cell_below hS HV0.out
                    go_simp
                    with_reducible rfl
                  rotate_left
                  · simp only [Act.put, List.setIfInBounds_toArray, List.set_cons_zero, List.set_cons_succ, i64_w, i32_w]
                    rfl
                  refine pure_ (i := 5) (N := some 47) (v := ?_) (a' := ?_) (bmG 24 63) rfl rfl (by kernel_rfl) (fun _ _ _ h => h) (Or.inl ⟨by rfl, ?_⟩) ?_ ?_
                  rotate_left
                  · intro w'
                    go_simp
                    (try simp only [hwi, hcmp])
                    with_reducible rfl
                  rotate_left
                  · simp only [Act.put, List.setIfInBounds_toArray, List.set_cons_zero, List.set_cons_succ, i64_w, i32_w]
                    rfl
                  refine pure_ (i := 6) (N := some 48) (v := ?_) (a' := ?_) (bmG 24 127) rfl rfl (by kernel_rfl) (fun _ _ _ h => h) (Or.inl ⟨by rfl, ?_⟩) ?_ ?_
                  rotate_left
                  · intro w'
                    go_simp
                    (try simp only [hwi, hcmp])
                    with_reducible rfl
                  rotate_left
                  · simp only [Act.put, List.setIfInBounds_toArray, List.set_cons_zero, List.set_cons_succ, i64_w, i32_w]
                    rfl
                  refine pure_ (i := 7) (N := some 49) (v := .int .i64 ((i - 1 : Nat) : Int)) (a' := ?_) (bmG 24 255) rfl rfl (by kernel_rfl) (fun _ _ _ h => h) (Or.inl ⟨by rfl, ?_⟩) ?_ ?_
                  · intro w'
                    go_simp
                    (try simp only [hwi, hcmp])
                    (try rfl)
                  rotate_left
                  · simp only [Act.put, List.setIfInBounds_toArray, List.set_cons_zero, List.set_cons_succ, i64_w, i32_w]
                    rfl
                  refine pure_ (i := 8) (N := some 50) (v := ?_) (a' := ?_) (bmG 24 511) rfl rfl (by kernel_rfl) (fun _ _ _ h => h) (Or.inl ⟨by rfl, ?_⟩) ?_ ?_
                  rotate_left
                  · intro w'
                    go_simp
                    (try simp only [hwi, hcmp])
                    with_reducible rfl
                  rotate_left
                  · simp only [Act.put, List.setIfInBounds_toArray, List.set_cons_zero, List.set_cons_succ, i64_w, i32_w]
                    rfl
                  refine pure_ (i := 9) (N := some 51) (v := ?_) (a' := ?_) (bmG 24 1023) rfl rfl (by kernel_rfl) (fun _ _ _ h => h) (Or.inl ⟨by rfl, ?_⟩) ?_ ?_
                  rotate_left
                  · intro w'
                    go_simp
                    (try simp only [hwi, hcmp])
                    with_reducible rfl
                  rotate_left
                  · simp only [Act.put, List.setIfInBounds_toArray, List.set_cons_zero, List.set_cons_succ, i64_w, i32_w]
                    rfl
                  refine take_ (i := 10) (N := some 52) (v := ?_) (a' := ?_) (bmG 24 2047) rfl rfl (by kernel_rfl) (fun _ _ _ h => h) (Or.inl ⟨by rfl, ?_⟩) hS ?_ ?_
                  rotate_left
                  · intro w' hS
                    have s0 := pw_cell_below hS HZ0.out
                    have s1 := pw_cell_below hS HV0.out
                    go_simp
                    with_reducible rfl
                  rotate_left
                  · simp only [Act.put, List.setIfInBounds_toArray, List.set_cons_zero, List.set_cons_succ, i64_w, i32_w]
                    rfl
                  refine pure_ (i := 11) (N := some 53) (v := .bool false) (a' := ?_) (bmG 24 4095) rfl rfl (by kernel_rfl) (fun _ _ _ h => h) (Or.inl ⟨by rfl, ?_⟩) ?_ ?_
                  · intro w'
                    go_simp
                    (try simp only [hwi, hcmp])
                    exact HLE.out
                    (try rfl)
                  rotate_left
                  · simp only [Act.put, List.setIfInBounds_toArray, List.set_cons_zero, List.set_cons_succ, i64_w, i32_w]
                    rfl
                  refine pure_ (i := 12) (N := some 54) (v := ?_) (a' := ?_) (bmG 24 8191) rfl rfl (by kernel_rfl) (fun _ _ _ h => h) (Or.inl ⟨by rfl, ?_⟩) ?_ ?_
                  rotate_left
                  · intro w'
                    go_simp
                    (try simp only [hwi, hcmp])
                    with_reducible rfl
                  rotate_left
                  · simp only [Act.put, List.setIfInBounds_toArray, List.set_cons_zero, List.set_cons_succ, i64_w, i32_w]
                    rfl
                  refine pure_ (i := 13) (N := some 55) (v := ?_) (a' := ?_) (bmG 24 16383) rfl rfl (by kernel_rfl) (fun _ _ _ h => h) (Or.inl ⟨by rfl, ?_⟩) ?_ ?_
                  rotate_left
                  · intro w'
                    go_simp
                    (try simp only [hwi, hcmp])
                    with_reducible rfl
                  rotate_left
                  · simp only [Act.put, List.setIfInBounds_toArray, List.set_cons_zero, List.set_cons_succ, i64_w, i32_w]
                    rfl
                  refine pure_ (i := 14) (N := some 56) (v := ?_) (a' := ?_) (bmG 24 32767) rfl rfl (by kernel_rfl) (fun _ _ _ h => h) (Or.inl ⟨by rfl, ?_⟩) ?_ ?_
                  rotate_left
                  · intro w'
                    go_simp
                    (try simp only [hwi, hcmp])
                    with_reducible rfl
                  rotate_left
                  · simp only [Act.put, List.setIfInBounds_toArray, List.set_cons_zero, List.set_cons_succ, i64_w, i32_w]
                    rfl
                  refine pure_ (i := 15) (N := some 57) (v := ?_) (a' := ?_) (bmG 24 65535) rfl rfl (by kernel_rfl) (fun _ _ _ h => h) (Or.inl ⟨by rfl, ?_⟩) ?_ ?_
                  rotate_left
                  · intro w'
                    go_simp
                    (try simp only [hwi, hcmp])
                    with_reducible rfl
                  rotate_left
                  · simp only [Act.put, List.setIfInBounds_toArray, List.set_cons_zero, List.set_cons_succ, i64_w, i32_w]
                    rfl
                  refine pure_ (i := 16) (N := some 58) (v := ?_) (a' := ?_) (bmG 24 131071) rfl rfl (by kernel_rfl) (fun _ _ _ h => h) (Or.inl ⟨by rfl, ?_⟩) ?_ ?_
                  rotate_left
                  · intro w'
                    go_simp
                    (try simp only [hwi, hcmp])
                    with_reducible rfl
                  rotate_left
                  · simp only [Act.put, List.setIfInBounds_toArray, List.set_cons_zero, List.set_cons_succ, i64_w, i32_w]
                    rfl
                  refine pure_ (i := 17) (N := some 59) (v := ?_) (a' := ?_) (bmG 24 262143) rfl rfl (by kernel_rfl) (fun _ _ _ h => h) (Or.inl ⟨by rfl, ?_⟩) ?_ ?_
                  rotate_left
                  · intro w'
                    go_simp
                    (try simp only [hwi, hcmp])
                    with_reducible rfl
                  rotate_left
                  · simp only [Act.put, List.setIfInBounds_toArray, List.set_cons_zero, List.set_cons_succ, i64_w, i32_w]
                    rfl
                  refine pure_ (i := 18) (N := some 60) (v := ?_) (a' := ?_) (bmG 24 524287) rfl rfl (by kernel_rfl) (fun _ _ _ h => h) (Or.inl ⟨by rfl, ?_⟩) ?_ ?_
                  rotate_left
                  · intro w'
                    go_simp
                    (try simp only [hwi, hcmp])
                    with_reducible rfl
                  rotate_left
                  · simp only [Act.put, List.setIfInBounds_toArray, List.set_cons_zero, List.set_cons_succ, i64_w, i32_w]
                    rfl
                  refine pure_ (i := 19) (N := some 61) (v := ?_) (a' := ?_) (bmG 24 1048575) rfl rfl (by kernel_rfl) (fun _ _ _ h => h) (Or.inl ⟨by rfl, ?_⟩) ?_ ?_
                  rotate_left
                  · intro w'
                    go_simp
                    (try simp only [hwi, hcmp])
                    with_reducible rfl
                  rotate_left
                  · simp only [Act.put, List.setIfInBounds_toArray, List.set_cons_zero, List.set_cons_succ, i64_w, i32_w]
                    rfl
                  refine pure_ (i := 20) (N := some 62) (v := ?_) (a' := ?_) (bmG 24 2097151) rfl rfl (by kernel_rfl) (fun _ _ _ h => h) (Or.inl ⟨by rfl, ?_⟩) ?_ ?_
                  rotate_left
                  · intro w'
                    go_simp
                    (try simp only [hwi, hcmp])
                    with_reducible rfl
                  rotate_left
                  · simp only [Act.put, List.setIfInBounds_toArray, List.set_cons_zero, List.set_cons_succ, i64_w, i32_w]
                    rfl
                  refine one_ (i := 21) (N := some 63) (bmG 24 4194303) rfl rfl (by kernel_rfl) (by decide) (fun Kz hKz => ?_)
                  refine goes_ Tryz.func64 (by kernel_rfl) rfl #[.slice (some ad) i c0, .string pa] (by rfl) rfl rfl (by (try simp only [List.map_toArray, List.map_cons, List.map_nil]); first | done | rfl) ?_
                  refine (HDir.out _ (below_step HB2.out hS)).mono ?_
                  rintro e wc ⟨rfl, hb⟩
                  refine ⟨_, rfl, ?_⟩
                  refine hKz.out _ _ (below_step hS hb) (fun hS => ?_)
                  clear hKz Kz
                  refine norm_ (a' := ?_) ?_ ?_
                  rotate_left
                  · show Act.put _ (some 63) _ = _
                    simp only [Act.put, List.setIfInBounds_toArray, List.set_cons_zero, List.set_cons_succ, i64_w, i32_w]
                    rfl
                  refine pure_ (i := 22) (N := some 64) (v := ?_) (a' := ?_) (bmG 24 8388607) rfl rfl (by kernel_rfl) (fun _ _ _ h => h) (Or.inl ⟨by rfl, ?_⟩) ?_ ?_
                  rotate_left
                  · intro w'
                    go_simp
                    (try simp only [hwi, hcmp])
                    with_reducible rfl
                  rotate_left
                  · simp only [Act.put, List.setIfInBounds_toArray, List.set_cons_zero, List.set_cons_succ, i64_w, i32_w]
                    rfl
                  refine pure_ (i := 23) (N := some 65) (v := ?_) (a' := ?_) (bmG 24 16777215) rfl rfl (by kernel_rfl) (fun _ _ _ h => h) (Or.inl ⟨by rfl, ?_⟩) ?_ ?_
                  rotate_left
                  · intro w'
                    go_simp
                    (try simp only [hwi, hcmp])
                    with_reducible rfl
                  rotate_left
                  · simp only [Act.put, List.setIfInBounds_toArray, List.set_cons_zero, List.set_cons_succ, i64_w, i32_w]
                    rfl
                  refine done_ (by kernel_rfl) ?_
                  cases bd with
                  | false =>
                    rw [Bool.false_and] at HF
                    go_wp2_with fail
                    go_ret
                    exact ⟨i, rfl, by rw [HF.out]; exact decide_eq_false (by omega), below_step HB2.out hS⟩
                  | true =>
                    rw [Bool.true_and] at HF
                    go_wp2_with fail
                    exact ⟨⟨i + 1, by simp, by omega, HF, ⟨below_step HB2.out hS⟩⟩, by simp [intOf]; omega⟩
      · have hic : decide ((i : Int) < (t.length : Int)) = false := decide_eq_false (by omega)
        obtain rfl : i = t.length := by omega
        have HF := Aside0.mk (show treeB t = true from by rw [HT.out, List.drop_length]; rfl)
        go_wp2_with fail
        go_ret
        exact ⟨-1, rfl, by rw [HF.out]; rfl, HB.out⟩
theorem refTree_calls (A0 : Option Addr) (c0 : Nat) (t : List S47) (w : World) (hC : Kd.C k47 w A0 t.length t) (hc : t.length ≤ c0) (hn : t.length ≤ 100000) (hs : ∀ n ∈ t, n.f0.size ≤ 100000 ∧ n.f2.size ≤ 100000) :
    Calls Tryz.prog 30 #[.slice A0 t.length c0] w fun e w' => e = .returned (.bool (treeB t)) ∧ Below w.heap.size w w' := by
  have X := Aside0.mk hC
  have HS := Aside0.mk hs
  clear hC hs
  go_enter Tryz.func30, Tryz.ntmps30
  go_wp2_with fail
  refine (refBad_calls A0 c0 t w X.out hc hn HS.out).mono ?_
  rintro e w1 ⟨r, rfl, hr, hb⟩
  have HB := Aside0.mk hb
  clear hb
  go_wp2_with fail
  go_ret
  exact ⟨by rw [← hr]; rfl, HB.out⟩
end Go.Proofs.YtdijnmcfpbceaaaGreatDoor.X

namespace Go.Proofs.YtdijnmcfpbceaaaGreatDoor.P
open Go.Proofs.YtdijnmcfpbceaaaGreatDoor.X
open Go.RowKit Go.Proofs.YtdijnmcfpbceaaaGreatDoorW.PrintWords Go.Proofs.YtdijnmcfpbceaaaGreatDoorW.PrintLast Go.Proofs.YtdijnmcfpbceaaaGreatDoorW.PrintMore
attribute [local go_sem] min2_int min_two
set_option linter.unusedVariables false
set_option linter.unusedSimpArgs false
def hogsheadref13_Decimal.f : Nat → Int → Option (ByteArray)
 | 0, _ => none
 | k + 1, a0 => if a0 < 10 then (if 0 ≤ a0 then (if a0 ≤ (wrap64 (a0 + 1)) then (if (wrap64 (a0 + 1)) ≤ 10 then (some ((⟨#[48, 49, 50, 51, 52, 53, 54, 55, 56, 57]⟩ : ByteArray).extract (a0 : Int).toNat ((wrap64 (a0 + 1)) : Int).toNat)) else (none)) else (none)) else (none)) else ((hogsheadref13_Decimal.f k (wrap64 (Int.tdiv a0 10))).bind fun t107 => ((hogsheadref13_Decimal.f k (Int.tmod a0 10)).bind fun t108 => (if t107.size + t108.size ≤ 9223372036854775807 then (some (t107 ++ t108)) else (none))))
set_option maxHeartbeats 8000000 in
set_option maxRecDepth 100000 in
theorem hogsheadref13_Decimal.calls (k : Nat) : ∀ (a0 : Int) (r : ByteArray) (w : World) (h : hogsheadref13_Decimal.f k a0 = some r),
  Calls Tryz.prog 36 #[.int .i64 a0] w fun e w' => e = .returned (.string r) ∧ Drawn0 w w' := by
 induction k using Nat.strongRecOn with
 | _ k ih =>
 intro a0 r w h
 cases k with
 | zero => exact absurd h (by simp [hogsheadref13_Decimal.f])
 | succ k =>
 simp only [hogsheadref13_Decimal.f] at h
 have H : (if a0 < 10 then (if 0 ≤ a0 then (if a0 ≤ (wrap64 (a0 + 1)) then (if (wrap64 (a0 + 1)) ≤ 10 then (some ((⟨#[48, 49, 50, 51, 52, 53, 54, 55, 56, 57]⟩ : ByteArray).extract (a0 : Int).toNat ((wrap64 (a0 + 1)) : Int).toNat)) else (none)) else (none)) else (none)) else ((hogsheadref13_Decimal.f k (wrap64 (Int.tdiv a0 10))).bind fun t107 => ((hogsheadref13_Decimal.f k (Int.tmod a0 10)).bind fun t108 => (if t107.size + t108.size ≤ 9223372036854775807 then (some (t107 ++ t108)) else (none))))) = some r := h
 clear h
 by_cases c2 : a0 < 10
 ·rw [if_pos c2] at H
  have c2b0 : decide (a0 < 10) = true := decide_eq_true c2
  clear c2
  by_cases c3 : 0 ≤ a0
  ·rw [if_pos c3] at H
   have c3b0 := eq_true c3
   have c3b1 : decide (0 ≤ a0) = true := decide_eq_true c3
   clear c3
   by_cases c4 : a0 ≤ (wrap64 (a0 + 1))
   ·rw [if_pos c4] at H
    have c4b0 := eq_true c4
    have c4b1 : decide (a0 ≤ (wrap64 (a0 + 1))) = true := decide_eq_true c4
    by_cases c5 : (wrap64 (a0 + 1)) ≤ 10
    ·rw [if_pos c5] at H
     have c5b0 := eq_true c5
     have c5b1 : decide ((wrap64 (a0 + 1)) ≤ 10) = true := decide_eq_true c5
     obtain rfl := Option.some.inj H
     go_enter Tryz.func36, Tryz.ntmps36
     go_wp2
     go_ret
     exact ⟨by first | rfl | (simp; done) | (simp [*]; done), by repeat (first | exact Drawn0.refl _ | apply Drawn0.step)⟩
    ·rw [if_neg c5] at H
     exact absurd H (by simp)
   ·rw [if_neg c4] at H
    exact absurd H (by simp)
  ·rw [if_neg c3] at H
   exact absurd H (by simp)
 ·rw [if_neg c2] at H
  have c2b0 : decide (a0 < 10) = false := decide_eq_false c2
  clear c2
  replace H := Option.bind_eq_some_iff.mp H
  obtain ⟨t107, A60, H⟩ := H
  replace H : ((hogsheadref13_Decimal.f k (Int.tmod a0 10)).bind fun t108 => (if t107.size + t108.size ≤ 9223372036854775807 then (some (t107 ++ t108)) else (none))) = some r := H
  have A6 := Aside0.mk A60
  clear A60
  replace H := Option.bind_eq_some_iff.mp H
  obtain ⟨t108, A70, H⟩ := H
  replace H : (if t107.size + t108.size ≤ 9223372036854775807 then (some (t107 ++ t108)) else (none)) = some r := H
  have A7 := Aside0.mk A70
  clear A70
  by_cases c8 : t107.size + t108.size ≤ 9223372036854775807
  ·rw [if_pos c8] at H
   have c8b0 := eq_true c8
   have c8b1 : decide (t107.size + t108.size ≤ 9223372036854775807) = true := decide_eq_true c8
   try have c8b2 : (9223372036854775807 < t107.size + t108.size) = False := eq_false (Nat.not_lt.2 c8)
   have Sc8 := Aside0.mk c8
   clear c8
   obtain rfl := Option.some.inj H
   go_enter Tryz.func36, Tryz.ntmps36
   go_wp2_with (first | ((with_reducible refine gate_callee (f := 36) rfl ?_); refine goesL_ (some 11) rfl rfl Tryz.func36 (by kernel_rfl) rfl #[.int .i64 (wrap64 (Int.tdiv a0 10))] rfl (by (try simp only [List.map_toArray, List.map_cons, List.map_nil]); first | done | rfl | (simp only [List.length_drop, List.length_take]; rfl)) ?_; (with_reducible refine (ih k (by omega) (wrap64 (Int.tdiv a0 10)) t107 _ A6.out).mono ?_); rintro e w' ⟨rfl, ⟨nd, rfl⟩⟩; refine ⟨_, rfl, ?_⟩) | ((with_reducible refine gate_callee (f := 36) rfl ?_); refine goesL_ (some 14) rfl rfl Tryz.func36 (by kernel_rfl) rfl #[.int .i64 (Int.tmod a0 10)] rfl (by (try simp only [List.map_toArray, List.map_cons, List.map_nil]); first | done | rfl | (simp only [List.length_drop, List.length_take]; rfl)) ?_; (with_reducible refine (ih k (by omega) (Int.tmod a0 10) t108 _ A7.out).mono ?_); rintro e w' ⟨rfl, ⟨nd, rfl⟩⟩; refine ⟨_, rfl, ?_⟩))
   try any_goals (exfalso; have h_ := Sc8.out; rename_i hb_; (try simp only [ByteArray.size_extract, ByteArray.size_append] at h_ hb_); (try simp only [ByteArray.size, List.size_toArray, List.length_cons, List.length_nil] at h_ hb_); omega)
   go_ret
   exact ⟨by first | rfl | (simp; done) | (simp [*]; done), by repeat (first | exact Drawn0.refl _ | apply Drawn0.step)⟩
  ·rw [if_neg c8] at H
   exact absurd H (by simp)
end Go.Proofs.YtdijnmcfpbceaaaGreatDoor.P

namespace Go.Proofs.YtdijnmcfpbceaaaGreatDoor.P
open Go.Proofs.YtdijnmcfpbceaaaGreatDoor.X
open Go.RowKit Go.Proofs.YtdijnmcfpbceaaaGreatDoorW.PrintWords Go.Proofs.YtdijnmcfpbceaaaGreatDoorW.PrintLast Go.Proofs.YtdijnmcfpbceaaaGreatDoorW.PrintMore
attribute [local go_sem] min2_int min_two
set_option linter.unusedVariables false
set_option linter.unusedSimpArgs false
def hogsheadref13_cut.f (a0 : ByteArray) : Option (ByteArray) := if 0 ≤ (mn (a0.size : Int) 100) then (if (mn (a0.size : Int) 100) ≤ (a0.size : Int) then (some (a0.extract 0 ((mn (a0.size : Int) 100) : Int).toNat)) else (none)) else (none)
set_option maxHeartbeats 8000000 in
set_option maxRecDepth 100000 in
theorem hogsheadref13_cut.calls (a0 : ByteArray) (r : ByteArray) (w : World) (h : hogsheadref13_cut.f a0 = some r) :
  Calls Tryz.prog 34 #[.string a0] w fun e w' => e = .returned (.string r) ∧ Below w.heap.size w w' := by
 have HB := Aside0.mk (Below.refl w.heap.size w)
 have H : (if 0 ≤ (mn (a0.size : Int) 100) then (if (mn (a0.size : Int) 100) ≤ (a0.size : Int) then (some (a0.extract 0 ((mn (a0.size : Int) 100) : Int).toNat)) else (none)) else (none)) = some r := h
 clear h
 obtain ⟨ji2, hji2⟩ : ∃ j_ : Int, (mn (a0.size : Int) 100) = j_ := ⟨_, rfl⟩
 replace H : (if 0 ≤ (ji2) then (if (ji2) ≤ (a0.size : Int) then (some (a0.extract 0 ((ji2) : Int).toNat)) else (none)) else (none)) = some r := by first | (rw [hji2] at H; exact H) | (simp only [hji2] at H ⊢; exact H)
 (try (have hji2h : ji2 ≤ 100 := by (rw [← hji2]; unfold mn; (repeat' split) <;> omega)))
 (try (have hji2g : ji2 ≤ 64 := by omega))
 (try (have hji2l : 0 ≤ ji2 := by (rw [← hji2]; unfold mn; (repeat' split) <;> omega)))
 (try (have hji2m : 0 ≤ ji2 := by omega))
 have hji2_ : (if 100 < (a0.size : Int) then 100 else (a0.size : Int)) = ji2 := hji2
 by_cases c3 : 0 ≤ (ji2)
 ·rw [if_pos c3] at H
  have c3b0 := eq_true c3
  have c3b1 : decide (0 ≤ (ji2)) = true := decide_eq_true c3
  clear c3
  by_cases c4 : (ji2) ≤ (a0.size : Int)
  ·rw [if_pos c4] at H
   have c4b0 := eq_true c4
   have c4b1 : decide ((ji2) ≤ (a0.size : Int)) = true := decide_eq_true c4
   clear c4
   obtain rfl := Option.some.inj H
   go_enter Tryz.func34, Tryz.ntmps34
   go_wp2
   go_ret
   exact ⟨by first | rfl | (simp [errW_none, errW_some] <;> rfl) | (simp only [← hji2]; first | rfl | (simp [errW_none, errW_some] <;> rfl)) | (simp [*, errW_none, errW_some] <;> rfl), by repeat (first | (with_reducible first | exact HB.out | apply below_alloc | apply pw_below_drewN | apply below_drew1) | exact HB.out)⟩
  ·rw [if_neg c4] at H
   exact absurd H (by simp)
 ·rw [if_neg c3] at H
  exact absurd H (by simp)
end Go.Proofs.YtdijnmcfpbceaaaGreatDoor.P

namespace Go.Proofs.YtdijnmcfpbceaaaGreatDoor.X
open Go.RowKit Go.Proofs.YtdijnmcfpbceaaaGreatDoorW.PrintWords Go.Proofs.YtdijnmcfpbceaaaGreatDoorW.PrintLast Go.Proofs.YtdijnmcfpbceaaaGreatDoorW.PrintMore Go.Proofs.YtdijnmcfpbceaaaGreatDoor.P
set_option linter.unusedVariables false
set_option linter.unusedSimpArgs false
theorem digit13_cut (n : Nat) (h : n < 10) : (⟨#[48, 49, 50, 51, 52, 53, 54, 55, 56, 57]⟩ : ByteArray).extract n (n + 1) = decT n := by
  unfold decT
  rw [Lib.decDigits_one h]
  rcases (by omega : n = 0 ∨ n = 1 ∨ n = 2 ∨ n = 3 ∨ n = 4 ∨ n = 5 ∨ n = 6 ∨ n = 7 ∨ n = 8 ∨ n = 9) with h | h | h | h | h | h | h | h | h | h <;> subst h <;> rfl
theorem decT_len (u : Nat) (h : u ≤ 9223372036854775807) : (decT u).size ≤ 21 := by
  rw [decT_size]
  have := lenD_le 18 u (by
    have : (10 : Nat) ^ (18 + 1) = 10000000000000000000 := by decide
    omega)
  omega
theorem decimal13 : ∀ (d u : Nat), u < d → u ≤ 9223372036854775807 → Ev (fun k => hogsheadref13_Decimal.f k (u : Int)) (decT u) := by
  intro d
  induction d with
  | zero => intro u hu; omega
  | succ d ih =>
    intro u hu hm
    by_cases c : u < 10
    · refine ⟨1, fun k hk => ?_⟩
      obtain ⟨k, rfl⟩ : ∃ m, k = m + 1 := ⟨k - 1, by omega⟩
      have ew : wrap64 ((u : Int) + 1) = ((u + 1 : Nat) : Int) := by unfold wrap64; omega
      simp only [hogsheadref13_Decimal.f]
      rw [if_pos (by omega), if_pos (by omega), ew, if_pos (by omega), if_pos (by omega)]
      rw [show ((u : Int)).toNat = u from rfl, show (((u + 1 : Nat) : Int)).toNat = u + 1 from rfl, digit13_cut u c]
    · obtain ⟨K1, h1⟩ := ih (u / 10) (by omega) (by omega)
      obtain ⟨K2, h2⟩ := ih (u % 10) (by omega) (by omega)
      refine ⟨K1 + K2 + 1, fun k hk => ?_⟩
      obtain ⟨k, rfl⟩ : ∃ m, k = m + 1 := ⟨k - 1, by omega⟩
      have h1 := h1 k (by omega)
      have h2 := h2 k (by omega)
      simp only at h1 h2
      have e1 : wrap64 (Int.tdiv (u : Int) 10) = ((u / 10 : Nat) : Int) := by
        rw [Int.tdiv_eq_ediv_of_nonneg (by omega)]; unfold wrap64; omega
      have e2 : Int.tmod (u : Int) 10 = ((u % 10 : Nat) : Int) := by
        rw [Int.tmod_eq_emod_of_nonneg (by omega)]; omega
      simp only [hogsheadref13_Decimal.f]
      rw [if_neg (by omega), e1, e2, h1, h2]
      simp only [Option.bind_some]
      have l1 := decT_len (u / 10) (by omega)
      have l2 := decT_len (u % 10) (by omega)
      rw [if_pos (by clear e1 e2; omega)]
      have e3 : Lib.decDigits u = Lib.decDigits (u / 10) ++ Lib.decDigits (u % 10) := by
        conv => lhs; rw [Lib.decDigits]
        rw [dif_neg c, Lib.decDigits_one (by omega : u % 10 < 10)]
      unfold decT
      rw [append_mk, e3]
set_option maxHeartbeats 4000000 in
theorem refRecord_calls (key value : ByteArray) (w : World) (hs : key.size + value.size ≤ 800000) :
    Calls Tryz.prog 15 #[.string key, .string value] w fun e w' => e = .returned (.string (recT key value)) ∧ Below w.heap.size w w' := by
  have HE := Aside0.mk (recT_eq key value)
  have HRs := Aside0.mk (restT_size key value)
  go_enter Tryz.func15, Tryz.ntmps15
  go_wp2_with fail
  have HI := Aside0.mk (recM_spec (key.size + value.size + 3) (by omega))
  have hM7 := (recM_gt (key.size + value.size + 3) (by omega)).2
  have hMg := (recM_gt (key.size + value.size + 3) (by omega)).1
  have hst : (1 + (key.size : Int) + 1 + (value.size : Int) + 1) = ((key.size + value.size + 3 : Nat) : Int) := by omega
  have HRT : Aside0 (({ data := #[32] } ++ key ++ { data := #[61] } ++ value ++ { data := #[10] } : ByteArray) = restT key value) := ⟨rfl⟩
  rw [HRT.out, hst]
  clear HRT hst
  have hrt := HRs.out
  generalize restT key value = rt at *
  have hL : key.size + value.size + 3 ≤ 800003 := by omega
  generalize key.size + value.size + 3 = L at *
  generalize recM L = M at *
  clear HRs
  (try rw [show wrap64 ((L : Int) + 1) = ((L + 1 : Nat) : Int) from by unfold wrap64; omega])
  go_loopw [6] (fun v6 wr => ∃ n : Nat, v6 = .int .i64 n ∧ L ≤ n ∧ n ≤ M ∧ Aside0 (Below w.heap.size w wr)) (fun a _ => M - (intOf a).toNat)
  case atStart => exact ⟨L + 1, by first | rfl | (congr 1; omega), by omega, by omega, ⟨Below.refl _ _⟩⟩
  case round =>
    obtain ⟨n, rfl, hn1, hn2, HB⟩ := hrel
    have HDc := Aside0.mk (decimal13 (n + 1) n (by omega) (by omega))
    have HDS := Aside0.mk (decT_size n)
    have hd7 : (decT n).size ≤ 6 := by
      rw [HDS.out]
      exact lenD_le 5 n (by
        have : (10 : Nat) ^ (5 + 1) = 1000000 := by decide
        omega)
    have HC1 := Aside0.mk (show n < M → n < L + (decT n).size from fun h => by rw [HDS.out]; exact HI.out.2 n hn1 h)
    have HC2 := Aside0.mk (show n = M → n = L + (decT n).size from fun h => by rw [HDS.out, h]; exact HI.out.1)
    clear HDS
    go_wp2_with fail
    obtain ⟨K, hK⟩ := HDc.out
    have HK := Aside0.mk (hK K (Nat.le_refl _))
    clear hK HDc
    refine (hogsheadref13_Decimal.calls K (n : Int) (decT n) wr HK.out).mono ?_
    rintro e w1 ⟨rfl, hd⟩
    have HB1 := Aside0.mk (below_step HB.out hd.below)
    clear hd HB
    by_cases hnm : n = M
    · have hne : ((n : Int) != (L : Int) + ((decT n).size : Int)) = false := by
        rw [bne_eq_false_iff_eq]
        have := HC2.out hnm
        omega
      subst hnm
      clear HC1 HC2
      go_wp2_with fail
      refine (hogsheadref13_Decimal.calls K (n : Int) (decT n) w1 HK.out).mono ?_
      rintro e w2 ⟨rfl, hd⟩
      have HB2 := Aside0.mk (below_step HB1.out hd.below)
      clear hd HB1 hne
      have hroom : (decT n).size + rt.size ≤ 9223372036854775807 := by omega
      go_wp2_with fail
      go_ret
      rw [HE.out]
      exact ⟨rfl, HB2.out⟩
    · have hne : ((n : Int) != (L : Int) + ((decT n).size : Int)) = true := by
        rw [bne_iff_ne]
        have := HC1.out (by omega)
        omega
      clear HC1 HC2
      go_wp2_with fail
      exact ⟨⟨n + 1, by first | rfl | (congr 1; omega), by omega, by omega, HB1⟩, by simp only [intOf]; omega⟩
theorem refCut13_eq (s : ByteArray) : hogsheadref13_cut.f s = some (cutS s) := by
  unfold hogsheadref13_cut.f cutS
  have e : mn (s.size : Int) 100 = ((min s.size 100 : Nat) : Int) := by
    unfold mn
    omega
  rw [e, if_pos (by omega), if_pos (by omega), Int.toNat_natCast]
def linkN (n : S47) : ByteArray := if n.f1 = 4 then n.f2 else ⟨#[]⟩
def dataN (n : S47) : ByteArray := if n.f1 = 4 then ⟨#[]⟩ else n.f2
set_option maxHeartbeats 4000000 in
theorem refParts_calls (n : S47) (w : World) (h0 : n.f0.size ≤ 100000) (h2 : n.f2.size ≤ 100000) :
    Calls Tryz.prog 31 #[.agg #[.string n.f0, .int .i64 n.f1, .string n.f2]] w fun e w' => e = .returned (.tuple #[.string (nameN n), .string (linkN n), .string (dataN n), .string (extraN n)]) ∧ Below w.heap.size w w' := by
  have hnm : (nameN n).size ≤ 100000 := by
    unfold nameN
    split
    · exact (by decide : (⟨#[46]⟩ : ByteArray).size ≤ 100000)
    · exact h0
  have hr : ∀ a b : ByteArray, a.size ≤ 10 → b.size ≤ 100000 → (recT a b).size ≤ 200000 := fun a b ha hb => by
    rw [recT_eq, ByteArray.size_append, decT_size, restT_size]
    have h1 := lenD_le 5 (recM (a.size + b.size + 3)) (by
      have h2 := (recM_gt (a.size + b.size + 3) (by omega)).2
      have : (10 : Nat) ^ (5 + 1) = 1000000 := by decide
      omega)
    omega
  have e8 : (⟨#[108, 105, 110, 107, 112, 97, 116, 104]⟩ : ByteArray).size = 8 := rfl
  have e4 : (⟨#[112, 97, 116, 104]⟩ : ByteArray).size = 4 := rfl
  have HR1 := Aside0.mk (fun W => refRecord_calls ⟨#[112, 97, 116, 104]⟩ (nameN n) W (by omega))
  have HR2 := Aside0.mk (fun W => refRecord_calls ⟨#[108, 105, 110, 107, 112, 97, 116, 104]⟩ n.f2 W (by omega))
  have hs1 := hr ⟨#[112, 97, 116, 104]⟩ (nameN n) (by omega) hnm
  have hs2 := hr ⟨#[108, 105, 110, 107, 112, 97, 116, 104]⟩ n.f2 (by omega) h2
  clear hr e8 e4
  obtain ⟨be, hbe⟩ : ∃ b, (n.f0.toList == ([] : List UInt8)) = b := ⟨_, rfl⟩
  obtain ⟨b4, hb4⟩ : ∃ b, (n.f1 == 4) = b := ⟨_, rfl⟩
  have HN := Aside0.mk (show nameN n = if be = true then ⟨#[46]⟩ else n.f0 from by
    unfold nameN
    by_cases h : n.f0.size = 0
    · rw [if_pos h, if_pos (by rw [← hbe, (toList_nil _).2 h]; rfl)]
    · rw [if_neg h, if_neg (fun e => h ((toList_nil _).1 (by rw [← hbe] at e; exact beq_iff_eq.1 e)))])
  have HL := Aside0.mk (show linkN n = if b4 = true then n.f2 else ⟨#[]⟩ from by
    unfold linkN
    by_cases h : n.f1 = 4
    · rw [if_pos h, if_pos (by rw [← hb4]; exact beq_iff_eq.2 h)]
    · rw [if_neg h, if_neg (fun e => h (by rw [← hb4] at e; exact beq_iff_eq.1 e))])
  have HD := Aside0.mk (show dataN n = if b4 = true then ⟨#[]⟩ else n.f2 from by
    unfold dataN
    by_cases h : n.f1 = 4
    · rw [if_pos h, if_pos (by rw [← hb4]; exact beq_iff_eq.2 h)]
    · rw [if_neg h, if_neg (fun e => h (by rw [← hb4] at e; exact beq_iff_eq.1 e))])
  have HX := Aside0.mk (show extraN n = (if 100 < (nameN n).size then recT ⟨#[112, 97, 116, 104]⟩ (nameN n) else ⟨#[]⟩) ++ (if b4 = true ∧ 100 < n.f2.size then recT ⟨#[108, 105, 110, 107, 112, 97, 116, 104]⟩ n.f2 else ⟨#[]⟩) from by
    unfold extraN
    congr 1
    by_cases h : n.f1 = 4 ∧ 100 < n.f2.size
    · rw [if_pos h, if_pos ⟨by rw [← hb4]; exact beq_iff_eq.2 h.1, h.2⟩]
    · rw [if_neg h, if_neg (fun e => h ⟨by rw [← hb4] at e; exact beq_iff_eq.1 e.1, e.2⟩)])
  generalize linkN n = ln at *
  generalize dataN n = dn at *
  generalize extraN n = xn at *
  generalize nameN n = nm at *
  generalize hz1 : recT ⟨#[112, 97, 116, 104]⟩ nm = r1 at *
  generalize hz2 : recT ⟨#[108, 105, 110, 107, 112, 97, 116, 104]⟩ n.f2 = r2 at *
  clear hz1 hz2
  obtain ⟨f0, f1, f2⟩ := n
  simp only at *
  go_enter Tryz.func31, Tryz.ntmps31
  go_wp2_with fail
  have HB := Aside0.mk (below_alloc (Below.refl w.heap.size w) (.cells #[.string f0, .int .i64 f1, .string f2] 47))
  have HZ := Aside0.mk (blk_new w (.cells #[.string f0, .int .i64 f1, .string f2] 47))
  generalize w.alloc (.cells #[.string f0, .int .i64 f1, .string f2] 47) = W0 at *
  have z0 : W0.cell? ⟨w.heap.size, 0, none⟩ = some (.string f0) := (blk_cell HZ.out 0).trans rfl
  have z1 : W0.cell? ⟨w.heap.size, 1, none⟩ = some (.int .i64 f1) := (blk_cell HZ.out 1).trans rfl
  have z2 : W0.cell? ⟨w.heap.size, 2, none⟩ = some (.string f2) := (blk_cell HZ.out 2).trans rfl
  go_quiet (fail)
  cases be with
  | true =>
    obtain rfl : nm = ⟨#[46]⟩ := HN.out
    clear HN HR1
    cases b4 with
    | false =>
      obtain rfl : ln = ⟨#[]⟩ := HL.out
      obtain rfl : f2 = dn := HD.out.symm
      clear HL HD
      go_wp2_with (first
          | (go_at_call 15; refine (HR1.out _).mono ?_; rintro e w1 ⟨rfl, hb⟩; have HB := Aside0.mk (below_step (by repeat (first | exact HB.out | apply pw_below_drewN | apply below_drew1)) hb); clear hb; clear HR1)
          | (go_at_call 15; refine (HR2.out _).mono ?_; rintro e w2 ⟨rfl, hb⟩; have HB := Aside0.mk (below_step (by repeat (first | exact HB.out | apply pw_below_drewN | apply below_drew1)) hb); clear hb))
      repeat (go_quiet (first
          | (go_at_call 15; refine (HR1.out _).mono ?_; rintro e w1 ⟨rfl, hb⟩; have HB := Aside0.mk (below_step (by repeat (first | exact HB.out | apply pw_below_drewN | apply below_drew1)) hb); clear hb; clear HR1)
          | (go_at_call 15; refine (HR2.out _).mono ?_; rintro e w2 ⟨rfl, hb⟩; have HB := Aside0.mk (below_step (by repeat (first | exact HB.out | apply pw_below_drewN | apply below_drew1)) hb); clear hb)))
      refine bodyPost_ret (results_list (rs := [.tmp 2, .tmp 3, .tmp 4, .tmp 5]) rfl (by simp) (.tmp (.tmp (.tmp (.tmp .nil))))) rfl ?_
      rw [HX.out]
      rw [if_neg (show ¬ 100 < (⟨#[46]⟩ : ByteArray).size by decide)]
      rw [if_neg (by intro h; cases h.1), append_empty]
      exact ⟨rfl, by repeat (first | exact HB.out | apply pw_below_drewN | apply below_drew1)⟩
    | true =>
      obtain rfl : f2 = ln := HL.out.symm
      obtain rfl : dn = ⟨#[]⟩ := HD.out
      clear HL HD
      by_cases q : 100 < f2.size
      · have hq : decide ((100 : Int) < (f2.size : Int)) = true := decide_eq_true (by omega)
        have hqi : (100 : Int) < (f2.size : Int) := by omega
        go_wp2_with (first
            | (go_at_call 15; refine (HR1.out _).mono ?_; rintro e w1 ⟨rfl, hb⟩; have HB := Aside0.mk (below_step (by repeat (first | exact HB.out | apply pw_below_drewN | apply below_drew1)) hb); clear hb; clear HR1)
            | (go_at_call 15; refine (HR2.out _).mono ?_; rintro e w2 ⟨rfl, hb⟩; have HB := Aside0.mk (below_step (by repeat (first | exact HB.out | apply pw_below_drewN | apply below_drew1)) hb); clear hb))
        repeat (go_quiet (first
            | (go_at_call 15; refine (HR1.out _).mono ?_; rintro e w1 ⟨rfl, hb⟩; have HB := Aside0.mk (below_step (by repeat (first | exact HB.out | apply pw_below_drewN | apply below_drew1)) hb); clear hb; clear HR1)
            | (go_at_call 15; refine (HR2.out _).mono ?_; rintro e w2 ⟨rfl, hb⟩; have HB := Aside0.mk (below_step (by repeat (first | exact HB.out | apply pw_below_drewN | apply below_drew1)) hb); clear hb)))
        refine bodyPost_ret (results_list (rs := [.tmp 2, .tmp 3, .tmp 4, .tmp 5]) rfl (by simp) (.tmp (.tmp (.tmp (.tmp .nil))))) rfl ?_
        rw [HX.out]
        rw [if_neg (show ¬ 100 < (⟨#[46]⟩ : ByteArray).size by decide)]
        rw [if_pos (by first | exact ⟨rfl, by omega⟩ | exact ⟨trivial, by omega⟩)]
        exact ⟨rfl, by repeat (first | exact HB.out | apply pw_below_drewN | apply below_drew1)⟩
      · have hq : decide ((100 : Int) < (f2.size : Int)) = false := decide_eq_false (by omega)
        go_wp2_with (first
            | (go_at_call 15; refine (HR1.out _).mono ?_; rintro e w1 ⟨rfl, hb⟩; have HB := Aside0.mk (below_step (by repeat (first | exact HB.out | apply pw_below_drewN | apply below_drew1)) hb); clear hb; clear HR1)
            | (go_at_call 15; refine (HR2.out _).mono ?_; rintro e w2 ⟨rfl, hb⟩; have HB := Aside0.mk (below_step (by repeat (first | exact HB.out | apply pw_below_drewN | apply below_drew1)) hb); clear hb))
        repeat (go_quiet (first
            | (go_at_call 15; refine (HR1.out _).mono ?_; rintro e w1 ⟨rfl, hb⟩; have HB := Aside0.mk (below_step (by repeat (first | exact HB.out | apply pw_below_drewN | apply below_drew1)) hb); clear hb; clear HR1)
            | (go_at_call 15; refine (HR2.out _).mono ?_; rintro e w2 ⟨rfl, hb⟩; have HB := Aside0.mk (below_step (by repeat (first | exact HB.out | apply pw_below_drewN | apply below_drew1)) hb); clear hb)))
        refine bodyPost_ret (results_list (rs := [.tmp 2, .tmp 3, .tmp 4, .tmp 5]) rfl (by simp) (.tmp (.tmp (.tmp (.tmp .nil))))) rfl ?_
        rw [HX.out]
        rw [if_neg (show ¬ 100 < (⟨#[46]⟩ : ByteArray).size by decide)]
        rw [if_neg (by intro h; omega), append_empty]
        exact ⟨rfl, by repeat (first | exact HB.out | apply pw_below_drewN | apply below_drew1)⟩
  | false =>
    obtain rfl : f0 = nm := HN.out.symm
    clear HN
    by_cases p : 100 < f0.size
    · have hp : decide ((100 : Int) < (f0.size : Int)) = true := decide_eq_true (by omega)
      cases b4 with
      | false =>
        obtain rfl : ln = ⟨#[]⟩ := HL.out
        obtain rfl : f2 = dn := HD.out.symm
        clear HL HD
        go_wp2_with (first
            | (go_at_call 15; refine (HR1.out _).mono ?_; rintro e w1 ⟨rfl, hb⟩; have HB := Aside0.mk (below_step (by repeat (first | exact HB.out | apply pw_below_drewN | apply below_drew1)) hb); clear hb; clear HR1)
            | (go_at_call 15; refine (HR2.out _).mono ?_; rintro e w2 ⟨rfl, hb⟩; have HB := Aside0.mk (below_step (by repeat (first | exact HB.out | apply pw_below_drewN | apply below_drew1)) hb); clear hb))
        repeat (go_quiet (first
            | (go_at_call 15; refine (HR1.out _).mono ?_; rintro e w1 ⟨rfl, hb⟩; have HB := Aside0.mk (below_step (by repeat (first | exact HB.out | apply pw_below_drewN | apply below_drew1)) hb); clear hb; clear HR1)
            | (go_at_call 15; refine (HR2.out _).mono ?_; rintro e w2 ⟨rfl, hb⟩; have HB := Aside0.mk (below_step (by repeat (first | exact HB.out | apply pw_below_drewN | apply below_drew1)) hb); clear hb)))
        refine bodyPost_ret (results_list (rs := [.tmp 2, .tmp 3, .tmp 4, .tmp 5]) rfl (by simp) (.tmp (.tmp (.tmp (.tmp .nil))))) rfl ?_
        rw [HX.out]
        rw [if_pos (show 100 < f0.size by omega)]
        rw [if_neg (by intro h; cases h.1), append_empty]
        exact ⟨rfl, by repeat (first | exact HB.out | apply pw_below_drewN | apply below_drew1)⟩
      | true =>
        obtain rfl : f2 = ln := HL.out.symm
        obtain rfl : dn = ⟨#[]⟩ := HD.out
        clear HL HD
        by_cases q : 100 < f2.size
        · have hq : decide ((100 : Int) < (f2.size : Int)) = true := decide_eq_true (by omega)
          have hqi : (100 : Int) < (f2.size : Int) := by omega
          go_wp2_with (first
              | (go_at_call 15; refine (HR1.out _).mono ?_; rintro e w1 ⟨rfl, hb⟩; have HB := Aside0.mk (below_step (by repeat (first | exact HB.out | apply pw_below_drewN | apply below_drew1)) hb); clear hb; clear HR1)
              | (go_at_call 15; refine (HR2.out _).mono ?_; rintro e w2 ⟨rfl, hb⟩; have HB := Aside0.mk (below_step (by repeat (first | exact HB.out | apply pw_below_drewN | apply below_drew1)) hb); clear hb))
          repeat (go_quiet (first
              | (go_at_call 15; refine (HR1.out _).mono ?_; rintro e w1 ⟨rfl, hb⟩; have HB := Aside0.mk (below_step (by repeat (first | exact HB.out | apply pw_below_drewN | apply below_drew1)) hb); clear hb; clear HR1)
              | (go_at_call 15; refine (HR2.out _).mono ?_; rintro e w2 ⟨rfl, hb⟩; have HB := Aside0.mk (below_step (by repeat (first | exact HB.out | apply pw_below_drewN | apply below_drew1)) hb); clear hb)))
          refine bodyPost_ret (results_list (rs := [.tmp 2, .tmp 3, .tmp 4, .tmp 5]) rfl (by simp) (.tmp (.tmp (.tmp (.tmp .nil))))) rfl ?_
          rw [HX.out]
          rw [if_pos (show 100 < f0.size by omega)]
          rw [if_pos (by first | exact ⟨rfl, by omega⟩ | exact ⟨trivial, by omega⟩)]
          exact ⟨rfl, by repeat (first | exact HB.out | apply pw_below_drewN | apply below_drew1)⟩
        · have hq : decide ((100 : Int) < (f2.size : Int)) = false := decide_eq_false (by omega)
          go_wp2_with (first
              | (go_at_call 15; refine (HR1.out _).mono ?_; rintro e w1 ⟨rfl, hb⟩; have HB := Aside0.mk (below_step (by repeat (first | exact HB.out | apply pw_below_drewN | apply below_drew1)) hb); clear hb; clear HR1)
              | (go_at_call 15; refine (HR2.out _).mono ?_; rintro e w2 ⟨rfl, hb⟩; have HB := Aside0.mk (below_step (by repeat (first | exact HB.out | apply pw_below_drewN | apply below_drew1)) hb); clear hb))
          repeat (go_quiet (first
              | (go_at_call 15; refine (HR1.out _).mono ?_; rintro e w1 ⟨rfl, hb⟩; have HB := Aside0.mk (below_step (by repeat (first | exact HB.out | apply pw_below_drewN | apply below_drew1)) hb); clear hb; clear HR1)
              | (go_at_call 15; refine (HR2.out _).mono ?_; rintro e w2 ⟨rfl, hb⟩; have HB := Aside0.mk (below_step (by repeat (first | exact HB.out | apply pw_below_drewN | apply below_drew1)) hb); clear hb)))
          refine bodyPost_ret (results_list (rs := [.tmp 2, .tmp 3, .tmp 4, .tmp 5]) rfl (by simp) (.tmp (.tmp (.tmp (.tmp .nil))))) rfl ?_
          rw [HX.out]
          rw [if_pos (show 100 < f0.size by omega)]
          rw [if_neg (by intro h; omega), append_empty]
          exact ⟨rfl, by repeat (first | exact HB.out | apply pw_below_drewN | apply below_drew1)⟩
    · have hp : decide ((100 : Int) < (f0.size : Int)) = false := decide_eq_false (by omega)
      clear HR1
      cases b4 with
      | false =>
        obtain rfl : ln = ⟨#[]⟩ := HL.out
        obtain rfl : f2 = dn := HD.out.symm
        clear HL HD
        go_wp2_with (first
            | (go_at_call 15; refine (HR1.out _).mono ?_; rintro e w1 ⟨rfl, hb⟩; have HB := Aside0.mk (below_step (by repeat (first | exact HB.out | apply pw_below_drewN | apply below_drew1)) hb); clear hb; clear HR1)
            | (go_at_call 15; refine (HR2.out _).mono ?_; rintro e w2 ⟨rfl, hb⟩; have HB := Aside0.mk (below_step (by repeat (first | exact HB.out | apply pw_below_drewN | apply below_drew1)) hb); clear hb))
        repeat (go_quiet (first
            | (go_at_call 15; refine (HR1.out _).mono ?_; rintro e w1 ⟨rfl, hb⟩; have HB := Aside0.mk (below_step (by repeat (first | exact HB.out | apply pw_below_drewN | apply below_drew1)) hb); clear hb; clear HR1)
            | (go_at_call 15; refine (HR2.out _).mono ?_; rintro e w2 ⟨rfl, hb⟩; have HB := Aside0.mk (below_step (by repeat (first | exact HB.out | apply pw_below_drewN | apply below_drew1)) hb); clear hb)))
        refine bodyPost_ret (results_list (rs := [.tmp 2, .tmp 3, .tmp 4, .tmp 5]) rfl (by simp) (.tmp (.tmp (.tmp (.tmp .nil))))) rfl ?_
        rw [HX.out]
        rw [if_neg (show ¬ 100 < f0.size by omega)]
        rw [if_neg (by intro h; cases h.1), append_empty]
        exact ⟨rfl, by repeat (first | exact HB.out | apply pw_below_drewN | apply below_drew1)⟩
      | true =>
        obtain rfl : f2 = ln := HL.out.symm
        obtain rfl : dn = ⟨#[]⟩ := HD.out
        clear HL HD
        by_cases q : 100 < f2.size
        · have hq : decide ((100 : Int) < (f2.size : Int)) = true := decide_eq_true (by omega)
          have hqi : (100 : Int) < (f2.size : Int) := by omega
          go_wp2_with (first
              | (go_at_call 15; refine (HR1.out _).mono ?_; rintro e w1 ⟨rfl, hb⟩; have HB := Aside0.mk (below_step (by repeat (first | exact HB.out | apply pw_below_drewN | apply below_drew1)) hb); clear hb; clear HR1)
              | (go_at_call 15; refine (HR2.out _).mono ?_; rintro e w2 ⟨rfl, hb⟩; have HB := Aside0.mk (below_step (by repeat (first | exact HB.out | apply pw_below_drewN | apply below_drew1)) hb); clear hb))
          repeat (go_quiet (first
              | (go_at_call 15; refine (HR1.out _).mono ?_; rintro e w1 ⟨rfl, hb⟩; have HB := Aside0.mk (below_step (by repeat (first | exact HB.out | apply pw_below_drewN | apply below_drew1)) hb); clear hb; clear HR1)
              | (go_at_call 15; refine (HR2.out _).mono ?_; rintro e w2 ⟨rfl, hb⟩; have HB := Aside0.mk (below_step (by repeat (first | exact HB.out | apply pw_below_drewN | apply below_drew1)) hb); clear hb)))
          refine bodyPost_ret (results_list (rs := [.tmp 2, .tmp 3, .tmp 4, .tmp 5]) rfl (by simp) (.tmp (.tmp (.tmp (.tmp .nil))))) rfl ?_
          rw [HX.out]
          rw [if_neg (show ¬ 100 < f0.size by omega)]
          rw [if_pos (by first | exact ⟨rfl, by omega⟩ | exact ⟨trivial, by omega⟩)]
          exact ⟨rfl, by repeat (first | exact HB.out | apply pw_below_drewN | apply below_drew1)⟩
        · have hq : decide ((100 : Int) < (f2.size : Int)) = false := decide_eq_false (by omega)
          go_wp2_with (first
              | (go_at_call 15; refine (HR1.out _).mono ?_; rintro e w1 ⟨rfl, hb⟩; have HB := Aside0.mk (below_step (by repeat (first | exact HB.out | apply pw_below_drewN | apply below_drew1)) hb); clear hb; clear HR1)
              | (go_at_call 15; refine (HR2.out _).mono ?_; rintro e w2 ⟨rfl, hb⟩; have HB := Aside0.mk (below_step (by repeat (first | exact HB.out | apply pw_below_drewN | apply below_drew1)) hb); clear hb))
          repeat (go_quiet (first
              | (go_at_call 15; refine (HR1.out _).mono ?_; rintro e w1 ⟨rfl, hb⟩; have HB := Aside0.mk (below_step (by repeat (first | exact HB.out | apply pw_below_drewN | apply below_drew1)) hb); clear hb; clear HR1)
              | (go_at_call 15; refine (HR2.out _).mono ?_; rintro e w2 ⟨rfl, hb⟩; have HB := Aside0.mk (below_step (by repeat (first | exact HB.out | apply pw_below_drewN | apply below_drew1)) hb); clear hb)))
          refine bodyPost_ret (results_list (rs := [.tmp 2, .tmp 3, .tmp 4, .tmp 5]) rfl (by simp) (.tmp (.tmp (.tmp (.tmp .nil))))) rfl ?_
          rw [HX.out]
          rw [if_neg (show ¬ 100 < f0.size by omega)]
          rw [if_neg (by intro h; omega), append_empty]
          exact ⟨rfl, by repeat (first | exact HB.out | apply pw_below_drewN | apply below_drew1)⟩
end Go.Proofs.YtdijnmcfpbceaaaGreatDoor.X

namespace Go.Proofs.YtdijnmcfpbceaaaGreatDoor.X
open Go.RowKit Go.Proofs.YtdijnmcfpbceaaaGreatDoorW.PrintWords Go.Proofs.YtdijnmcfpbceaaaGreatDoorW.PrintLast Go.Proofs.YtdijnmcfpbceaaaGreatDoorW.PrintMore Go.Proofs.YtdijnmcfpbceaaaGreatDoor.P
set_option linter.unusedVariables false
set_option linter.unusedSimpArgs false
def padL (xs : List Int) : List Int := xs ++ List.replicate (padN xs.length) 0
theorem pad_entry (xs hs : List Int) (d : ByteArray) (h1 : xs.length % 512 = 0) (h2 : hs.length % 512 = 0) : padL (xs ++ hs ++ bytesOf d) = xs ++ (hs ++ (bytesOf d ++ List.replicate (padN d.size) 0)) := by
  have e : padN (xs ++ hs ++ bytesOf d).length = padN d.size := by
    rw [List.length_append, List.length_append, bytesOf_length]
    unfold padN
    omega
  unfold padL
  rw [e]
  simp only [List.append_assoc]
theorem own_entry (n : S47) : entryB (ownE n) = entryB ⟨cutS (nameN n), n.f1, cutS (linkN n), dataN n⟩ := by
  unfold ownE linkN dataN
  by_cases h : n.f1 = 4
  · rw [if_pos h, if_pos h, if_pos h]
  · rw [if_neg h, if_neg h, if_neg h]
    rw [show cutS (⟨#[]⟩ : ByteArray) = ⟨#[]⟩ from cutS_short _ (by decide)]
set_option maxHeartbeats 4000000 in
theorem refPad_calls (w0 : World) (base : Nat) (v : Value) (xs : List Int) (w : World) (HO : w.ownsRow base 5 1 v xs.length (nums .u8 xs)) (HB : Below base w0 w) (hbase : base ≤ w.heap.size) (hl : xs.length ≤ 1000000000) :
    Calls Tryz.prog 33 #[v] w fun e w' => ∃ v', e = .returned v' ∧ w'.ownsRow base 5 1 v' (padL xs).length (nums .u8 (padL xs)) ∧ Below base w0 w' := by
  have HO0 := Aside0.mk HO
  have HB0 := Aside0.mk HB
  have hb0 := HB.size
  clear HO HB
  go_enter Tryz.func33, Tryz.ntmps33
  go_wp2_with fail
  go_loopw [0] (fun vb wr => ∃ m : Nat, m ≤ padN xs.length ∧ Aside0 (wr.ownsRow base 5 1 vb (xs ++ List.replicate m 0).length (nums .u8 (xs ++ List.replicate m 0))) ∧ Aside0 (Below base w0 wr) ∧ Aside0 (base ≤ wr.heap.size)) (fun a _ => xs.length + 512 - rowLen a)
  case atStart => exact ⟨0, by omega, ⟨by simpa using HO0.out⟩, HB0, ⟨hbase⟩⟩
  case round =>
    clear HO0 HB0
    obtain ⟨m, hm, HO, HB, HS⟩ := hrel
    have HM := Aside0.mk hm
    have HYS : Aside0 (padL xs = xs ++ List.replicate (padN xs.length) 0) := ⟨rfl⟩
    have hlen : (xs ++ List.replicate m (0 : Int)).length = xs.length + m := by rw [List.length_append, List.length_replicate]
    obtain ⟨A, c, rfl⟩ := own_slice HO.out
    have hp : padN xs.length = (512 - xs.length % 512) % 512 := rfl
    by_cases hlt : m < padN xs.length
    · have hne : ((((xs ++ List.replicate m (0 : Int)).length : Nat) : Int) % 512 != 0) = true := by
        rw [bne_iff_ne, hlen]
        omega
      have hnext : xs ++ List.replicate m (0 : Int) ++ [0] = xs ++ List.replicate (m + 1) 0 := by rw [List.append_assoc, List.replicate_succ']
      have hyl : (xs ++ List.replicate m (0 : Int)).length ≤ 1000001000 := by omega
      have HNX := Aside0.mk hnext
      have HLN := Aside0.mk hlen
      have hm1 : m + 1 ≤ padN xs.length := hlt
      have HM1 := Aside0.mk hm1
      have HP := Aside0.mk hp
      clear hnext hlen
      generalize xs ++ List.replicate m (0 : Int) = ys at *
      clear hm hlt hp hm1
      go_wp2_with (at_builtin; refine print_append_num (w0 := w0) base rfl (.tmp 7) (.tmp 8) 26 5 .u8 1 rfl Tryz.underlying26 (by kernel_rfl) (by decide) (.slice A ys.length c) ys 0 rfl rfl HO.out HB.out HS.out (by omega) ?_; intro v4 w4 ho4 hb4 hg4 _; have HO4 := Aside0.mk ho4; have HB4 := Aside0.mk hb4; have HS4 := Aside0.mk (Nat.le_trans HS.out hg4.size); clear ho4 hb4 hg4)
      have hO4 := HO4.out
      rw [HNX.out] at hO4
      obtain ⟨A4, c4, rfl⟩ := own_slice HO4.out
      refine ⟨⟨m + 1, HM1.out, ⟨hO4⟩, HB4, HS4⟩, ?_⟩
      have h1 := HLN.out
      have h2 := HM1.out
      have h3 := HP.out
      simp only [rowLen, List.length_append, List.length_singleton]
      omega
    · have hne : ((((xs ++ List.replicate m (0 : Int)).length : Nat) : Int) % 512 != 0) = false := by
        rw [bne_eq_false_iff_eq, hlen]
        omega
      have hme : m = padN xs.length := by omega
      subst hme
      rw [← HYS.out] at hne HO ⊢
      obtain ⟨ys, hys⟩ : ∃ ys, padL xs = ys := ⟨_, rfl⟩
      have HYE := Aside0.mk hys
      rw [hys] at hne HO ⊢
      clear hys
      clear hlen hp hlt hm HYS HM
      go_wp2_with fail
      go_ret
      rw [HYE.out]
      exact ⟨_, rfl, HO.out, HB.out⟩
set_option maxHeartbeats 8000000 in
set_option maxRecDepth 100000 in
theorem refLay_calls (A0 : Option Addr) (c0 : Nat) (t : List S47) (w : World) (hC : Kd.C k47 w A0 t.length t) (hc : t.length ≤ c0) (hn : t.length ≤ 100000) (hz : ∀ n ∈ t, n.f0.size ≤ 100000 ∧ n.f2.size ≤ 100000) :
    Calls Tryz.prog 11 #[.slice A0 t.length c0] w fun e w' => ∃ v, e = .returned (.tuple #[v, .int .i64 (tarR t).2]) ∧ w'.ownsRow w.heap.size 5 1 v (tarR t).1.length (nums .u8 (tarR t).1) ∧ Below w.heap.size w w' := by
  have X := Aside0.mk hC
  have HT := Aside0.mk (fun W (h : Kd.C k47 W A0 t.length t) => refTree_calls A0 c0 t W h hc hn hz)
  clear hz hC
  go_enter Tryz.func11, Tryz.ntmps11
  go_wp2_with fail
  refine (HT.out _ X.out).mono ?_
  rintro e w1 ⟨rfl, hb1⟩
  have HB1 := Aside0.mk hb1
  clear hb1 HT
  obtain ⟨bt, hbt⟩ : ∃ b, treeB t = b := ⟨_, rfl⟩
  have HBT := Aside0.mk hbt
  rw [hbt]
  clear hbt
  cases bt with
  | false =>
    have HR := Aside0.mk (show tarR t = ([], 7) from by unfold tarR; rw [if_neg (by rw [HBT.out]; simp)])
    go_wp2_with fail
    go_ret2
    rw [HR.out]
    exact ⟨.slice none 0 0, rfl, ⟨rfl, .inl ⟨rfl, rfl⟩⟩, HB1.out⟩
  | true =>
    have HR := Aside0.mk (show tarR t = (tarB t, 0) from by unfold tarR; rw [if_pos HBT.out])
    have HG := Aside0.mk (treeB_good HBT.out)
    have h400 := HG.out.2
    go_wp2_with fail
    go_loopw [4, 5] (fun v3 v4 wr => ∃ (i : Nat) (xs : List Int), v4 = .int .i64 i ∧ i ≤ t.length ∧ xs.length ≤ 16000 * i ∧ Aside0 (xs = (entsT (t.take i)).flatMap entryB) ∧ Aside0 (wr.ownsRow w.heap.size 5 1 v3 xs.length (nums .u8 xs)) ∧ Aside0 (Below w.heap.size w wr)) (fun _ b _ => t.length - (intOf b).toNat)
    case atStart => exact ⟨0, [], rfl, by omega, by simp, ⟨rfl⟩, ⟨⟨rfl, .inl ⟨rfl, rfl⟩⟩⟩, HB1⟩
    case round =>
      clear HB1
      obtain ⟨i, xs, rfl, hi, hxl, HXS, HO, HB⟩ := hrel
      obtain ⟨A3, c3, rfl⟩ := own_slice HO.out
      by_cases hil : i < t.length
      · have hic : decide ((i : Int) < (t.length : Int)) = true := decide_eq_true (by omega)
        have hi0 : 0 ≤ (i : Int) := by omega
        obtain ⟨ad, rfl, z0, z1, z2⟩ := at_T47 (Kd.C_below X.out HB.out) (i : Int) (by omega) (by omega)
        simp only [Int.toNat_natCast] at z0 z1 z2
        have HX := Aside0.mk (rdN_get t i hil)
        have HS := Aside0.mk (HG.out.1 t[i] (List.getElem_mem _))
        rw [← HX.out] at HS
        generalize hrd : rd_T47 t (i : Int) = x at *
        have HRd := Aside0.mk hrd
        clear hrd
        obtain ⟨hs0, hs2⟩ := HS.out
        have hbd := (ents_bound x (by omega) (by omega)).2
        have HXi := Aside0.mk hil
        have HStep := Aside0.mk (show (entsT (t.take (i + 1))).flatMap entryB = (entsT (t.take i)).flatMap entryB ++ (entsN x).flatMap entryB from by
          rw [List.take_succ_eq_append_getElem hil, ← HX.out]
          unfold entsT
          rw [List.flatMap_append, List.flatMap_append]
          simp only [List.flatMap_cons, List.flatMap_nil, List.append_nil])
        have HLe := Aside0.mk (show ((entsT (t.take (i + 1))).flatMap entryB).length ≤ 16000 * (i + 1) from by
          rw [HStep.out, ← HXS.out, List.length_append]
          omega)
        have HM0 := Aside0.mk (show xs.length % 512 = 0 from by rw [HXS.out]; exact flat_mod _)
        have hes := extraN_size x (by omega) (by omega)
        have HNd := Aside0.mk (show (entsN x).flatMap entryB = (if (extraN x).size = 0 then [] else entryB ⟨⟨#[112, 97, 120]⟩, 5, ⟨#[]⟩, extraN x⟩) ++ entryB ⟨cutS (nameN x), x.f1, cutS (linkN x), dataN x⟩ from by
          unfold entsN
          rw [List.flatMap_append, ← own_entry]
          split
          · simp
          · simp)
        have hdn : (dataN x).size ≤ 400 := by
          unfold dataN
          split
          · exact (by decide : (⟨#[]⟩ : ByteArray).size ≤ 400)
          · exact hs2
        have HRP := Aside0.mk (refParts_calls x wr (by omega) (by omega))
        have HC1 := Aside0.mk (refCut13_eq (nameN x))
        have HC2 := Aside0.mk (refCut13_eq (linkN x))
        generalize nameN x = nm at *
        generalize linkN x = ln at *
        generalize dataN x = dn at *
        obtain ⟨b0, hb0⟩ : ∃ b, ((extraN x).toList != []) = b := ⟨_, rfl⟩
        have HX0 := Aside0.mk hb0
        generalize extraN x = ex at *
        have hb0a : (ex.toList == []) = !b0 := by rw [← hb0]; simp [bne]
        go_wp2_with fail
        refine HRP.out.mono ?_
        rintro e w2 ⟨rfl, hb2⟩
        have HB2 := Aside0.mk (below_step HB.out hb2)
        have HO2 := Aside0.mk (ownG HO.out hb2)
        clear hb2 HRP HO HB z0 z1 z2
        cases b0 with
        | false =>
          have HNode := Aside0.mk (show [] ++ entryB ⟨cutS nm, x.f1, cutS ln, dn⟩ = (entsN x).flatMap entryB from by
            rw [HNd.out, if_pos ((toList_nil _).1 (bne_eq_false_iff_eq.1 HX0.out))])
          have HYE := Aside0.mk (show xs.length % 512 = 0 ∧ xs = (entsT (t.take i)).flatMap entryB ++ [] from ⟨HM0.out, by rw [List.append_nil]; exact HXS.out⟩)
          have HOy := HO2
          have HBy := HB2
          have hyl : xs.length ≤ 16000 * i + 8000 := by omega
          clear HO2 HB2 HXS HM0 hbd hxl
          generalize A3 = Ay at *
          generalize c3 = cy at *
          generalize xs = ys at *
          generalize w2 = W at *
          obtain ⟨⟨hs, ok⟩, hlr⟩ : ∃ r, layR (cutS nm) x.f1 (dn.size : Int) (cutS ln) = r := ⟨_, rfl⟩
          have hlm : hs.length ≤ 512 := by
            have := layR_length (cutS nm) x.f1 (dn.size : Int) (cutS ln)
            rw [hlr] at this
            exact this
          have HM5 := Aside0.mk (show hs.length % 512 = 0 from by
            have := layR_mod (cutS nm) x.f1 (dn.size : Int) (cutS ln)
            rw [hlr] at this
            exact this)
          have HEn := Aside0.mk (show entryB ⟨cutS nm, x.f1, cutS ln, dn⟩ = hs ++ (bytesOf dn ++ List.replicate (padN dn.size) 0) from by unfold entryB; rw [hlr])
          obtain ⟨K, hK⟩ := ref_lay_eq (cutS nm) x.f1 (dn.size : Int) (cutS ln) (by omega)
          have HLy := Aside0.mk (show hogsheadref12_Lay.f K (cutS nm) x.f1 (dn.size : Int) (cutS ln) = some (hs, ok) from by
            have := hK K (Nat.le_refl _)
            rw [hlr] at this
            exact this)
          clear hK hlr
          obtain ⟨_, hz, z0, z1, z2⟩ := at_T47 (Kd.C_below X.out HBy.out) (i : Int) (by omega) (by omega)
          cases hz
          simp only [Int.toNat_natCast] at z0 z1 z2
          rw [HRd.out] at z0 z1 z2
          go_wp2_with fail
          refine start_ (n := 17) (S := fun w' => Below W.heap.size W w') (ds := []) (bmG 17 0) (by kernel_rfl) rfl (by kernel_rfl) (below_drew1 (Below.refl _ _)) (fun hS => ?_)
          generalize W.drew = wd at hS ⊢
          refine pure_ (i := 0) (N := some 48) (v := ?_) (a' := ?_) (bmG 17 1) rfl rfl (by kernel_rfl) (fun _ _ _ h => h) (Or.inl ⟨by rfl, ?_⟩) ?_ ?_
          rotate_left
          · intro w'
            go_simp
            with_reducible rfl
          rotate_left
          · simp only [Act.put, List.setIfInBounds_toArray, List.set_cons_zero, List.set_cons_succ, i64_w, i32_w]
            rfl
          refine pure_ (i := 2) (N := some 50) (v := ?_) (a' := ?_) (bmG 17 5) rfl rfl (by kernel_rfl) (fun _ _ _ h => h) (Or.inl ⟨by rfl, ?_⟩) ?_ ?_
          rotate_left
          · intro w'
            go_simp
            with_reducible rfl
          rotate_left
          · simp only [Act.put, List.setIfInBounds_toArray, List.set_cons_zero, List.set_cons_succ, i64_w, i32_w]
            rfl
          refine pure_ (i := 3) (N := some 51) (v := ?_) (a' := ?_) (bmG 17 13) rfl rfl (by kernel_rfl) (fun _ _ _ h => h) (Or.inl ⟨by rfl, ?_⟩) ?_ ?_
          rotate_left
          · intro w'
            go_simp
            with_reducible rfl
          rotate_left
          · simp only [Act.put, List.setIfInBounds_toArray, List.set_cons_zero, List.set_cons_succ, i64_w, i32_w]
            rfl
          refine pure_ (i := 4) (N := some 52) (v := ?_) (a' := ?_) (bmG 17 29) rfl rfl (by kernel_rfl) (fun _ _ _ h => h) (Or.inl ⟨by rfl, ?_⟩) ?_ ?_
          rotate_left
          · intro w'
            go_simp
            with_reducible rfl
          rotate_left
          · simp only [Act.put, List.setIfInBounds_toArray, List.set_cons_zero, List.set_cons_succ, i64_w, i32_w]
            rfl
          refine pure_ (i := 5) (N := some 53) (v := ?_) (a' := ?_) (bmG 17 61) rfl rfl (by kernel_rfl) (fun _ _ _ h => h) (Or.inl ⟨by rfl, ?_⟩) ?_ ?_
          rotate_left
          · intro w'
            go_simp
            with_reducible rfl
          rotate_left
          · simp only [Act.put, List.setIfInBounds_toArray, List.set_cons_zero, List.set_cons_succ, i64_w, i32_w]
            rfl
          refine take_ (i := 6) (N := some 54) (v := ?_) (a' := ?_) (bmG 17 125) rfl rfl (by kernel_rfl) (fun _ _ _ h => h) (Or.inl ⟨by rfl, ?_⟩) hS ?_ ?_
          rotate_left
          · intro w' hS
            have s0 := pw_cell_below hS z0
            have s1 := pw_cell_below hS z1
            have s2 := pw_cell_below hS z2
            go_simp
            with_reducible rfl
          rotate_left
          · simp only [Act.put, List.setIfInBounds_toArray, List.set_cons_zero, List.set_cons_succ, i64_w, i32_w]
            rfl
          refine pure_ (i := 7) (N := some 55) (v := ?_) (a' := ?_) (bmG 17 253) rfl rfl (by kernel_rfl) (fun _ _ _ h => h) (Or.inl ⟨by rfl, ?_⟩) ?_ ?_
          rotate_left
          · intro w'
            go_simp
            with_reducible rfl
          rotate_left
          · simp only [Act.put, List.setIfInBounds_toArray, List.set_cons_zero, List.set_cons_succ, i64_w, i32_w]
            rfl
          refine pure_ (i := 8) (N := some 56) (v := ?_) (a' := ?_) (bmG 17 509) rfl rfl (by kernel_rfl) (fun _ _ _ h => h) (Or.inl ⟨by rfl, ?_⟩) ?_ ?_
          rotate_left
          · intro w'
            go_simp
            with_reducible rfl
          rotate_left
          · simp only [Act.put, List.setIfInBounds_toArray, List.set_cons_zero, List.set_cons_succ, i64_w, i32_w]
            rfl
          refine pure_ (i := 9) (N := some 57) (v := ?_) (a' := ?_) (bmG 17 1021) rfl rfl (by kernel_rfl) (fun _ _ _ h => h) (Or.inl ⟨by rfl, ?_⟩) ?_ ?_
          rotate_left
          · intro w'
            go_simp
            with_reducible rfl
          rotate_left
          · simp only [Act.put, List.setIfInBounds_toArray, List.set_cons_zero, List.set_cons_succ, i64_w, i32_w]
            rfl
          refine one_ (i := 1) (N := some 49) (bmG 17 1023) rfl rfl (by kernel_rfl) (by decide) (fun Kz hKz => ?_)
          refine goes_ Tryz.func34 (by kernel_rfl) rfl #[.string nm] (by rfl) rfl rfl (by (try simp only [List.map_toArray, List.map_cons, List.map_nil]); first | done | rfl) ?_
          refine (hogsheadref13_cut.calls nm (cutS nm) _ HC1.out).mono ?_
          rintro e wc ⟨rfl, hb⟩
          refine ⟨_, rfl, ?_⟩
          refine hKz.out _ _ (below_step hS hb) (fun hS => ?_)
          clear hKz Kz
          refine norm_ (a' := ?_) ?_ ?_
          rotate_left
          · show Act.put _ (some 49) _ = _
            simp only [Act.put, List.setIfInBounds_toArray, List.set_cons_zero, List.set_cons_succ, i64_w, i32_w]
            rfl
          refine one_ (i := 10) (N := some 58) (bmG 17 2047) rfl rfl (by kernel_rfl) (by decide) (fun Kz hKz => ?_)
          refine goes_ Tryz.func34 (by kernel_rfl) rfl #[.string ln] (by rfl) rfl rfl (by (try simp only [List.map_toArray, List.map_cons, List.map_nil]); first | done | rfl) ?_
          refine (hogsheadref13_cut.calls ln (cutS ln) _ HC2.out).mono ?_
          rintro e wc ⟨rfl, hb⟩
          refine ⟨_, rfl, ?_⟩
          refine hKz.out _ _ (below_step hS hb) (fun hS => ?_)
          clear hKz Kz
          refine norm_ (a' := ?_) ?_ ?_
          rotate_left
          · show Act.put _ (some 58) _ = _
            simp only [Act.put, List.setIfInBounds_toArray, List.set_cons_zero, List.set_cons_succ, i64_w, i32_w]
            rfl
          refine one_ (i := 11) (N := some 59) (bmG 17 4095) rfl rfl (by kernel_rfl) (by decide) (fun Kz hKz => ?_)
          refine goes_ Tryz.func32 (by kernel_rfl) rfl #[.string (cutS nm), .int .i64 x.f1, .int .i64 (dn.size : Int), .string (cutS ln)] (by rfl) rfl rfl (by (try simp only [List.map_toArray, List.map_cons, List.map_nil]); first | done | rfl) ?_
          refine (hogsheadref12_Lay.calls K (cutS nm) x.f1 (dn.size : Int) (cutS ln) hs ok _ HLy.out).mono ?_
          rintro e wc ⟨vh, rfl, hR, hb⟩
          refine ⟨_, rfl, ?_⟩
          refine hKz.out _ _ (below_step hS hb) (fun hS => ?_)
          obtain ⟨Ah, ch, rfl, hch, hCh⟩ := Kd.R_reads hR
          have HCh := Aside0.mk hCh
          clear hR hCh hb
          clear hKz Kz
          refine norm_ (a' := ?_) ?_ ?_
          rotate_left
          · show Act.put _ (some 59) _ = _
            simp only [Act.put, List.setIfInBounds_toArray, List.set_cons_zero, List.set_cons_succ, i64_w, i32_w]
            rfl
          refine pure_ (i := 12) (N := some 47) (v := ?_) (a' := ?_) (bmG 17 8191) rfl rfl (by kernel_rfl) (fun _ _ _ h => h) (Or.inl ⟨by rfl, ?_⟩) ?_ ?_
          rotate_left
          · intro w'
            go_simp
            with_reducible rfl
          rotate_left
          · simp only [Act.put, List.setIfInBounds_toArray, List.set_cons_zero, List.set_cons_succ, i64_w, i32_w]
            rfl
          refine pure_ (i := 13) (N := some 60) (v := ?_) (a' := ?_) (bmG 17 16383) rfl rfl (by kernel_rfl) (fun _ _ _ h => h) (Or.inl ⟨by rfl, ?_⟩) ?_ ?_
          rotate_left
          · intro w'
            go_simp
            with_reducible rfl
          rotate_left
          · simp only [Act.put, List.setIfInBounds_toArray, List.set_cons_zero, List.set_cons_succ, i64_w, i32_w]
            rfl
          refine pure_ (i := 14) (N := some 61) (v := ?_) (a' := ?_) (bmG 17 32767) rfl rfl (by kernel_rfl) (fun _ _ _ h => h) (Or.inl ⟨by rfl, ?_⟩) ?_ ?_
          rotate_left
          · intro w'
            go_simp
            with_reducible rfl
          rotate_left
          · simp only [Act.put, List.setIfInBounds_toArray, List.set_cons_zero, List.set_cons_succ, i64_w, i32_w]
            rfl
          refine pure_ (i := 15) (N := some 12) (v := ?_) (a' := ?_) (bmG 17 65535) rfl rfl (by kernel_rfl) (fun _ _ _ h => h) (Or.inl ⟨by rfl, ?_⟩) ?_ ?_
          rotate_left
          · intro w'
            go_simp
            with_reducible rfl
          rotate_left
          · simp only [Act.put, List.setIfInBounds_toArray, List.set_cons_zero, List.set_cons_succ, i64_w, i32_w]
            rfl
          refine pure_ (i := 16) (N := some 13) (v := ?_) (a' := ?_) (bmG 17 131071) rfl rfl (by kernel_rfl) (fun _ _ _ h => h) (Or.inl ⟨by rfl, ?_⟩) ?_ ?_
          rotate_left
          · intro w'
            go_simp
            with_reducible rfl
          rotate_left
          · simp only [Act.put, List.setIfInBounds_toArray, List.set_cons_zero, List.set_cons_succ, i64_w, i32_w]
            rfl
          refine done_ (by kernel_rfl) ?_
          have HOr := Aside0.mk (ownG HOy.out hS)
          have HBr := Aside0.mk (below_step HBy.out hS)
          have hsr := HBr.out.size
          clear hS z0 z1 z2 HOy HBy
          go_wp2_with (first
            | (at_builtin; (refine print_append_row (w0 := w) w.heap.size rfl (.tmp 62) (.tmp 63) 26 5 .u8 1 rfl Tryz.underlying26 (by kernel_rfl) (by decide) (.slice Ay ys.length cy) ys hs Ah hs.length ch rfl rfl HOr.out (Kd.reads_of_C (d := (0 : Int)) HCh.out) HBr.out HBr.out.size (by omega) ?_)
               intro v2 w2 ho2 hb2 hg2 _
               have HO2 := Aside0.mk ho2
               have HB2 := Aside0.mk hb2
               have HS2 := Aside0.mk (Nat.le_trans HBr.out.size hg2.size)
               clear ho2 hb2 hg2)
            | (at_builtin; (refine print_append_str (w0 := w) w.heap.size rfl (.tmp 64) (.tmp 65) 26 9 5 rfl Tryz.underlying26 Tryz.underlying9 (by kernel_rfl) v2 (ys ++ hs) dn rfl rfl HO2.out HB2.out HS2.out (by rw [List.length_append]; omega) ?_)
               intro v3 w3 ho3 hb3 hg3
               generalize hzs : ys ++ hs ++ bytesOf dn = zs at ho3
               have HZS := Aside0.mk hzs
               have hzl : zs.length ≤ 16000 * i + 8000 + 512 + 100000 + 512 + 300000 := by
                 rw [← hzs]
                 simp only [List.length_append, bytesOf_length]
                 omega
               clear hzs
               have HO3 := Aside0.mk ho3
               have HB3 := Aside0.mk hb3
               have HS3 := Aside0.mk (Nat.le_trans HS2.out hg3.size)
               clear ho3 hb3 hg3))
          refine (refPad_calls w w.heap.size v3 zs w3 HO3.out HB3.out HS3.out (by omega)).mono ?_
          rintro e w4 ⟨v4, rfl, ho4, hb4⟩
          have HE4 := Aside0.mk (show padL zs = (entsT (t.take (i + 1))).flatMap entryB from by
            rw [← HZS.out, pad_entry _ _ _ HYE.out.1 HM5.out, ← HEn.out, HYE.out.2, List.append_assoc, HNode.out, ← HStep.out])
          rw [HE4.out] at ho4
          have HO4 := Aside0.mk ho4
          have HB4 := Aside0.mk hb4
          clear ho4 hb4
          have hle := HLe.out
          go_wp2_with fail
          exact ⟨⟨i + 1, _, by simp, by omega, hle, ⟨rfl⟩, HO4, HB4⟩, by simp only [intOf]; omega⟩
        | true =>
          obtain ⟨⟨hs, ok⟩, hlr⟩ : ∃ r, layR ⟨#[112, 97, 120]⟩ 5 (ex.size : Int) ⟨#[]⟩ = r := ⟨_, rfl⟩
          have hlm : hs.length ≤ 512 := by
            have := layR_length ⟨#[112, 97, 120]⟩ 5 (ex.size : Int) ⟨#[]⟩
            rw [hlr] at this
            exact this
          have HM5 := Aside0.mk (show hs.length % 512 = 0 from by
            have := layR_mod ⟨#[112, 97, 120]⟩ 5 (ex.size : Int) ⟨#[]⟩
            rw [hlr] at this
            exact this)
          have HEn := Aside0.mk (show entryB ⟨⟨#[112, 97, 120]⟩, 5, ⟨#[]⟩, ex⟩ = hs ++ (bytesOf ex ++ List.replicate (padN ex.size) 0) from by unfold entryB; rw [hlr])
          have HNode := Aside0.mk (show entryB ⟨⟨#[112, 97, 120]⟩, 5, ⟨#[]⟩, ex⟩ ++ entryB ⟨cutS nm, x.f1, cutS ln, dn⟩ = (entsN x).flatMap entryB from by
            rw [HNd.out, if_neg (fun h => by
              have h1 := HX0.out
              rw [(toList_nil _).2 h] at h1
              cases h1)])
          obtain ⟨K, hK⟩ := ref_lay_eq ⟨#[112, 97, 120]⟩ 5 (ex.size : Int) ⟨#[]⟩ (by omega)
          have HLy := Aside0.mk (show hogsheadref12_Lay.f K ⟨#[112, 97, 120]⟩ 5 (ex.size : Int) ⟨#[]⟩ = some (hs, ok) from by
            have := hK K (Nat.le_refl _)
            rw [hlr] at this
            exact this)
          clear hK hlr
          go_wp2_with fail
          refine (hogsheadref12_Lay.calls K ⟨#[112, 97, 120]⟩ 5 (ex.size : Int) ⟨#[]⟩ hs ok w2 HLy.out).mono ?_
          rintro e wq ⟨vh, rfl, hR, hbq⟩
          obtain ⟨Ah, ch, rfl, hch, hCh⟩ := Kd.R_reads hR
          have HCh := Aside0.mk hCh
          have HBq := Aside0.mk (below_step HB2.out hbq)
          have HOq := Aside0.mk (ownG HO2.out hbq)
          have hsq := HBq.out.size
          clear hR hCh hbq HB2 HO2
          go_wp2_with (first
            | (at_builtin; (refine print_append_row (w0 := w) w.heap.size rfl (.tmp 41) (.tmp 42) 26 5 .u8 1 rfl Tryz.underlying26 (by kernel_rfl) (by decide) (.slice A3 xs.length c3) xs hs Ah hs.length ch rfl rfl HOq.out (Kd.reads_of_C (d := (0 : Int)) HCh.out) HBq.out HBq.out.size (by omega) ?_)
               intro v2 w2 ho2 hb2 hg2 _
               have HO2 := Aside0.mk ho2
               have HB2 := Aside0.mk hb2
               have HS2 := Aside0.mk (Nat.le_trans HBq.out.size hg2.size)
               clear ho2 hb2 hg2)
            | (at_builtin; (refine print_append_str (w0 := w) w.heap.size rfl (.tmp 43) (.tmp 44) 26 9 5 rfl Tryz.underlying26 Tryz.underlying9 (by kernel_rfl) v2 (xs ++ hs) ex rfl rfl HO2.out HB2.out HS2.out (by rw [List.length_append]; omega) ?_)
               intro v3 w3 ho3 hb3 hg3
               generalize hzs : xs ++ hs ++ bytesOf ex = zs at ho3
               have HZS := Aside0.mk hzs
               have hzl : zs.length ≤ 16000 * i + 8000 + 512 + 100000 + 512 + 300000 := by
                 rw [← hzs]
                 simp only [List.length_append, bytesOf_length]
                 omega
               clear hzs
               have HO3 := Aside0.mk ho3
               have HB3 := Aside0.mk hb3
               have HS3 := Aside0.mk (Nat.le_trans HS2.out hg3.size)
               clear ho3 hb3 hg3))
          refine (refPad_calls w w.heap.size v3 zs w3 HO3.out HB3.out HS3.out (by omega)).mono ?_
          rintro e w4 ⟨v4, rfl, ho4, hb4⟩
          have HYE := Aside0.mk (show (padL zs).length % 512 = 0 ∧ padL zs = (entsT (t.take i)).flatMap entryB ++ entryB ⟨⟨#[112, 97, 120]⟩, 5, ⟨#[]⟩, ex⟩ from by
            have e : padL zs = xs ++ entryB ⟨⟨#[112, 97, 120]⟩, 5, ⟨#[]⟩, ex⟩ := by rw [← HZS.out, pad_entry _ _ _ HM0.out HM5.out, ← HEn.out]
            refine ⟨?_, by rw [e, HXS.out]⟩
            rw [e, List.length_append]
            have h1 := HM0.out
            have h2 := entryB_mod ⟨⟨#[112, 97, 120]⟩, 5, ⟨#[]⟩, ex⟩
            omega)
          have hyl : (padL zs).length ≤ 16000 * i + 8000 := by
            have e : padL zs = xs ++ entryB ⟨⟨#[112, 97, 120]⟩, 5, ⟨#[]⟩, ex⟩ := by rw [← HZS.out, pad_entry _ _ _ HM0.out HM5.out, ← HEn.out]
            rw [e, List.length_append]
            have h3 := entryB_len ⟨⟨#[112, 97, 120]⟩, 5, ⟨#[]⟩, ex⟩
            have h4 : (⟨⟨#[112, 97, 120]⟩, 5, ⟨#[]⟩, ex⟩ : EntT).data.size = ex.size := rfl
            omega
          have HOy := Aside0.mk ho4
          have HBy := Aside0.mk hb4
          clear ho4 hb4 HZS HO2 HB2 HS2 HO3 HB3 HS3 HOq HBq HCh HLy HM5 HEn HXS HM0 hzl hsq hlm
          generalize padL zs = ys at *
          obtain ⟨Ay, cy, rfl⟩ := own_slice HOy.out
          generalize w4 = W at *
          obtain ⟨⟨hs, ok⟩, hlr⟩ : ∃ r, layR (cutS nm) x.f1 (dn.size : Int) (cutS ln) = r := ⟨_, rfl⟩
          have hlm : hs.length ≤ 512 := by
            have := layR_length (cutS nm) x.f1 (dn.size : Int) (cutS ln)
            rw [hlr] at this
            exact this
          have HM5 := Aside0.mk (show hs.length % 512 = 0 from by
            have := layR_mod (cutS nm) x.f1 (dn.size : Int) (cutS ln)
            rw [hlr] at this
            exact this)
          have HEn := Aside0.mk (show entryB ⟨cutS nm, x.f1, cutS ln, dn⟩ = hs ++ (bytesOf dn ++ List.replicate (padN dn.size) 0) from by unfold entryB; rw [hlr])
          obtain ⟨K, hK⟩ := ref_lay_eq (cutS nm) x.f1 (dn.size : Int) (cutS ln) (by omega)
          have HLy := Aside0.mk (show hogsheadref12_Lay.f K (cutS nm) x.f1 (dn.size : Int) (cutS ln) = some (hs, ok) from by
            have := hK K (Nat.le_refl _)
            rw [hlr] at this
            exact this)
          clear hK hlr
          obtain ⟨_, hz, z0, z1, z2⟩ := at_T47 (Kd.C_below X.out HBy.out) (i : Int) (by omega) (by omega)
          cases hz
          simp only [Int.toNat_natCast] at z0 z1 z2
          rw [HRd.out] at z0 z1 z2
          go_wp2_with fail
          refine start_ (n := 17) (S := fun w' => Below W.heap.size W w') (ds := []) (bmG 17 0) (by kernel_rfl) rfl (by kernel_rfl) (below_drew1 (Below.refl _ _)) (fun hS => ?_)
          generalize W.drew = wd at hS ⊢
          refine pure_ (i := 0) (N := some 48) (v := ?_) (a' := ?_) (bmG 17 1) rfl rfl (by kernel_rfl) (fun _ _ _ h => h) (Or.inl ⟨by rfl, ?_⟩) ?_ ?_
          rotate_left
          · intro w'
            go_simp
            with_reducible rfl
          rotate_left
          · simp only [Act.put, List.setIfInBounds_toArray, List.set_cons_zero, List.set_cons_succ, i64_w, i32_w]
            rfl
          refine pure_ (i := 2) (N := some 50) (v := ?_) (a' := ?_) (bmG 17 5) rfl rfl (by kernel_rfl) (fun _ _ _ h => h) (Or.inl ⟨by rfl, ?_⟩) ?_ ?_
          rotate_left
          · intro w'
            go_simp
            with_reducible rfl
          rotate_left
          · simp only [Act.put, List.setIfInBounds_toArray, List.set_cons_zero, List.set_cons_succ, i64_w, i32_w]
            rfl
          refine pure_ (i := 3) (N := some 51) (v := ?_) (a' := ?_) (bmG 17 13) rfl rfl (by kernel_rfl) (fun _ _ _ h => h) (Or.inl ⟨by rfl, ?_⟩) ?_ ?_
          rotate_left
          · intro w'
            go_simp
            with_reducible rfl
          rotate_left
          · simp only [Act.put, List.setIfInBounds_toArray, List.set_cons_zero, List.set_cons_succ, i64_w, i32_w]
            rfl
          refine pure_ (i := 4) (N := some 52) (v := ?_) (a' := ?_) (bmG 17 29) rfl rfl (by kernel_rfl) (fun _ _ _ h => h) (Or.inl ⟨by rfl, ?_⟩) ?_ ?_
          rotate_left
          · intro w'
            go_simp
            with_reducible rfl
          rotate_left
          · simp only [Act.put, List.setIfInBounds_toArray, List.set_cons_zero, List.set_cons_succ, i64_w, i32_w]
            rfl
          refine pure_ (i := 5) (N := some 53) (v := ?_) (a' := ?_) (bmG 17 61) rfl rfl (by kernel_rfl) (fun _ _ _ h => h) (Or.inl ⟨by rfl, ?_⟩) ?_ ?_
          rotate_left
          · intro w'
            go_simp
            with_reducible rfl
          rotate_left
          · simp only [Act.put, List.setIfInBounds_toArray, List.set_cons_zero, List.set_cons_succ, i64_w, i32_w]
            rfl
          refine take_ (i := 6) (N := some 54) (v := ?_) (a' := ?_) (bmG 17 125) rfl rfl (by kernel_rfl) (fun _ _ _ h => h) (Or.inl ⟨by rfl, ?_⟩) hS ?_ ?_
          rotate_left
          · intro w' hS
            have s0 := pw_cell_below hS z0
            have s1 := pw_cell_below hS z1
            have s2 := pw_cell_below hS z2
            go_simp
            with_reducible rfl
          rotate_left
          · simp only [Act.put, List.setIfInBounds_toArray, List.set_cons_zero, List.set_cons_succ, i64_w, i32_w]
            rfl
          refine pure_ (i := 7) (N := some 55) (v := ?_) (a' := ?_) (bmG 17 253) rfl rfl (by kernel_rfl) (fun _ _ _ h => h) (Or.inl ⟨by rfl, ?_⟩) ?_ ?_
          rotate_left
          · intro w'
            go_simp
            with_reducible rfl
          rotate_left
          · simp only [Act.put, List.setIfInBounds_toArray, List.set_cons_zero, List.set_cons_succ, i64_w, i32_w]
            rfl
          refine pure_ (i := 8) (N := some 56) (v := ?_) (a' := ?_) (bmG 17 509) rfl rfl (by kernel_rfl) (fun _ _ _ h => h) (Or.inl ⟨by rfl, ?_⟩) ?_ ?_
          rotate_left
          · intro w'
            go_simp
            with_reducible rfl
          rotate_left
          · simp only [Act.put, List.setIfInBounds_toArray, List.set_cons_zero, List.set_cons_succ, i64_w, i32_w]
            rfl
          refine pure_ (i := 9) (N := some 57) (v := ?_) (a' := ?_) (bmG 17 1021) rfl rfl (by kernel_rfl) (fun _ _ _ h => h) (Or.inl ⟨by rfl, ?_⟩) ?_ ?_
          rotate_left
          · intro w'
            go_simp
            with_reducible rfl
          rotate_left
          · simp only [Act.put, List.setIfInBounds_toArray, List.set_cons_zero, List.set_cons_succ, i64_w, i32_w]
            rfl
          refine one_ (i := 1) (N := some 49) (bmG 17 1023) rfl rfl (by kernel_rfl) (by decide) (fun Kz hKz => ?_)
          refine goes_ Tryz.func34 (by kernel_rfl) rfl #[.string nm] (by rfl) rfl rfl (by (try simp only [List.map_toArray, List.map_cons, List.map_nil]); first | done | rfl) ?_
          refine (hogsheadref13_cut.calls nm (cutS nm) _ HC1.out).mono ?_
          rintro e wc ⟨rfl, hb⟩
          refine ⟨_, rfl, ?_⟩
          refine hKz.out _ _ (below_step hS hb) (fun hS => ?_)
          clear hKz Kz
          refine norm_ (a' := ?_) ?_ ?_
          rotate_left
          · show Act.put _ (some 49) _ = _
            simp only [Act.put, List.setIfInBounds_toArray, List.set_cons_zero, List.set_cons_succ, i64_w, i32_w]
            rfl
          refine one_ (i := 10) (N := some 58) (bmG 17 2047) rfl rfl (by kernel_rfl) (by decide) (fun Kz hKz => ?_)
          refine goes_ Tryz.func34 (by kernel_rfl) rfl #[.string ln] (by rfl) rfl rfl (by (try simp only [List.map_toArray, List.map_cons, List.map_nil]); first | done | rfl) ?_
          refine (hogsheadref13_cut.calls ln (cutS ln) _ HC2.out).mono ?_
          rintro e wc ⟨rfl, hb⟩
          refine ⟨_, rfl, ?_⟩
          refine hKz.out _ _ (below_step hS hb) (fun hS => ?_)
          clear hKz Kz
          refine norm_ (a' := ?_) ?_ ?_
          rotate_left
          · show Act.put _ (some 58) _ = _
            simp only [Act.put, List.setIfInBounds_toArray, List.set_cons_zero, List.set_cons_succ, i64_w, i32_w]
            rfl
          refine one_ (i := 11) (N := some 59) (bmG 17 4095) rfl rfl (by kernel_rfl) (by decide) (fun Kz hKz => ?_)
          refine goes_ Tryz.func32 (by kernel_rfl) rfl #[.string (cutS nm), .int .i64 x.f1, .int .i64 (dn.size : Int), .string (cutS ln)] (by rfl) rfl rfl (by (try simp only [List.map_toArray, List.map_cons, List.map_nil]); first | done | rfl) ?_
          refine (hogsheadref12_Lay.calls K (cutS nm) x.f1 (dn.size : Int) (cutS ln) hs ok _ HLy.out).mono ?_
          rintro e wc ⟨vh, rfl, hR, hb⟩
          refine ⟨_, rfl, ?_⟩
          refine hKz.out _ _ (below_step hS hb) (fun hS => ?_)
          obtain ⟨Ah, ch, rfl, hch, hCh⟩ := Kd.R_reads hR
          have HCh := Aside0.mk hCh
          clear hR hCh hb
          clear hKz Kz
          refine norm_ (a' := ?_) ?_ ?_
          rotate_left
          · show Act.put _ (some 59) _ = _
            simp only [Act.put, List.setIfInBounds_toArray, List.set_cons_zero, List.set_cons_succ, i64_w, i32_w]
            rfl
          refine pure_ (i := 12) (N := some 47) (v := ?_) (a' := ?_) (bmG 17 8191) rfl rfl (by kernel_rfl) (fun _ _ _ h => h) (Or.inl ⟨by rfl, ?_⟩) ?_ ?_
          rotate_left
          · intro w'
            go_simp
            with_reducible rfl
          rotate_left
          · simp only [Act.put, List.setIfInBounds_toArray, List.set_cons_zero, List.set_cons_succ, i64_w, i32_w]
            rfl
          refine pure_ (i := 13) (N := some 60) (v := ?_) (a' := ?_) (bmG 17 16383) rfl rfl (by kernel_rfl) (fun _ _ _ h => h) (Or.inl ⟨by rfl, ?_⟩) ?_ ?_
          rotate_left
          · intro w'
            go_simp
            with_reducible rfl
          rotate_left
          · simp only [Act.put, List.setIfInBounds_toArray, List.set_cons_zero, List.set_cons_succ, i64_w, i32_w]
            rfl
          refine pure_ (i := 14) (N := some 61) (v := ?_) (a' := ?_) (bmG 17 32767) rfl rfl (by kernel_rfl) (fun _ _ _ h => h) (Or.inl ⟨by rfl, ?_⟩) ?_ ?_
          rotate_left
          · intro w'
            go_simp
            with_reducible rfl
          rotate_left
          · simp only [Act.put, List.setIfInBounds_toArray, List.set_cons_zero, List.set_cons_succ, i64_w, i32_w]
            rfl
          refine pure_ (i := 15) (N := some 12) (v := ?_) (a' := ?_) (bmG 17 65535) rfl rfl (by kernel_rfl) (fun _ _ _ h => h) (Or.inl ⟨by rfl, ?_⟩) ?_ ?_
          rotate_left
          · intro w'
            go_simp
            with_reducible rfl
          rotate_left
          · simp only [Act.put, List.setIfInBounds_toArray, List.set_cons_zero, List.set_cons_succ, i64_w, i32_w]
            rfl
          refine pure_ (i := 16) (N := some 13) (v := ?_) (a' := ?_) (bmG 17 131071) rfl rfl (by kernel_rfl) (fun _ _ _ h => h) (Or.inl ⟨by rfl, ?_⟩) ?_ ?_
          rotate_left
          · intro w'
            go_simp
            with_reducible rfl
          rotate_left
          · simp only [Act.put, List.setIfInBounds_toArray, List.set_cons_zero, List.set_cons_succ, i64_w, i32_w]
            rfl
          refine done_ (by kernel_rfl) ?_
          have HOr := Aside0.mk (ownG HOy.out hS)
          have HBr := Aside0.mk (below_step HBy.out hS)
          have hsr := HBr.out.size
          clear hS z0 z1 z2 HOy HBy
          go_wp2_with (first
            | (at_builtin; (refine print_append_row (w0 := w) w.heap.size rfl (.tmp 62) (.tmp 63) 26 5 .u8 1 rfl Tryz.underlying26 (by kernel_rfl) (by decide) (.slice Ay ys.length cy) ys hs Ah hs.length ch rfl rfl HOr.out (Kd.reads_of_C (d := (0 : Int)) HCh.out) HBr.out HBr.out.size (by omega) ?_)
               intro v2 w2 ho2 hb2 hg2 _
               have HO2 := Aside0.mk ho2
               have HB2 := Aside0.mk hb2
               have HS2 := Aside0.mk (Nat.le_trans HBr.out.size hg2.size)
               clear ho2 hb2 hg2)
            | (at_builtin; (refine print_append_str (w0 := w) w.heap.size rfl (.tmp 64) (.tmp 65) 26 9 5 rfl Tryz.underlying26 Tryz.underlying9 (by kernel_rfl) v2 (ys ++ hs) dn rfl rfl HO2.out HB2.out HS2.out (by rw [List.length_append]; omega) ?_)
               intro v3 w3 ho3 hb3 hg3
               generalize hzs : ys ++ hs ++ bytesOf dn = zs at ho3
               have HZS := Aside0.mk hzs
               have hzl : zs.length ≤ 16000 * i + 8000 + 512 + 100000 + 512 + 300000 := by
                 rw [← hzs]
                 simp only [List.length_append, bytesOf_length]
                 omega
               clear hzs
               have HO3 := Aside0.mk ho3
               have HB3 := Aside0.mk hb3
               have HS3 := Aside0.mk (Nat.le_trans HS2.out hg3.size)
               clear ho3 hb3 hg3))
          refine (refPad_calls w w.heap.size v3 zs w3 HO3.out HB3.out HS3.out (by omega)).mono ?_
          rintro e w4 ⟨v4, rfl, ho4, hb4⟩
          have HE4 := Aside0.mk (show padL zs = (entsT (t.take (i + 1))).flatMap entryB from by
            rw [← HZS.out, pad_entry _ _ _ HYE.out.1 HM5.out, ← HEn.out, HYE.out.2, List.append_assoc, HNode.out, ← HStep.out])
          rw [HE4.out] at ho4
          have HO4 := Aside0.mk ho4
          have HB4 := Aside0.mk hb4
          clear ho4 hb4
          have hle := HLe.out
          go_wp2_with fail
          exact ⟨⟨i + 1, _, by simp, by omega, hle, ⟨rfl⟩, HO4, HB4⟩, by simp only [intOf]; omega⟩
      · have hic : decide ((i : Int) < (t.length : Int)) = false := decide_eq_false (by omega)
        have hi2 : i = t.length := by omega
        subst hi2
        have HTB := Aside0.mk (show tarB t = xs ++ List.replicate 1024 0 from by
          rw [HXS.out, List.take_length]
          rfl)
        clear HXS hil hi
        go_wp2_with (at_builtin; refine append_zerosG (w0 := w) w.heap.size rfl (.tmp 68) (.const (.int .i64 1024)) 26 3 5 rfl Tryz.underlying26 Tryz.underlying3 (by kernel_rfl) (.slice A3 xs.length c3) 0 xs .i64 1024 rfl rfl HO.out HB.out HB.out.size (by omega) ?_; intro v5 w5 ho5 hb5 _; rw [← HTB.out] at ho5; have HO5 := Aside0.mk ho5; have HB5 := Aside0.mk hb5; clear ho5 hb5)
        go_ret2
        rw [HR.out]
        exact ⟨v5, rfl, HO5.out, HB5.out⟩
end Go.Proofs.YtdijnmcfpbceaaaGreatDoor.X

namespace Go.Proofs.YtdijnmcfpbceaaaGreatDoor.X
open Go.RowKit Go.Proofs.YtdijnmcfpbceaaaGreatDoorW.PrintWords Go.Proofs.YtdijnmcfpbceaaaGreatDoorW.PrintLast Go.Proofs.YtdijnmcfpbceaaaGreatDoorW.PrintMore Go.Proofs.YtdijnmcfpbceaaaGreatDoor.P
set_option linter.unusedVariables false
set_option linter.unusedSimpArgs false
theorem lenM_stop1 (b : List Int) (f q : Nat) (p l : ByteArray) (t : List S47) (h : b.length < q + 512 ∨ 400 < t.length) : lenM b f q p l t = t := by
  cases f with
  | zero => rfl
  | succ f =>
    unfold lenM
    rw [if_pos h]
theorem lenM_stop2 (b : List Int) (f q : Nat) (p l : ByteArray) (t : List S47) {nm lk : ByteArray} {kd sz : Int} {ok : Bool} (hr : readR ((b.take (q + 512)).drop q) = (nm, kd, sz, lk, ok)) (h : ok = false ∨ (b.length : Int) - q - 512 < sz) : lenM b f q p l t = t := by
  cases f with
  | zero => rfl
  | succ f =>
    unfold lenM
    split
    · rfl
    · rw [hr]
      dsimp only
      rw [if_pos h]
theorem lenM_rec (b : List Int) (f q : Nat) (p l : ByteArray) (t : List S47) {nm lk : ByteArray} {m : Nat} (hr : readR ((b.take (q + 512)).drop q) = (nm, 5, (m : Int), lk, true)) (h1 : ¬ (b.length < q + 512 ∨ 400 < t.length)) (h2 : q + 512 + m ≤ b.length) {d : ByteArray} (hd : strOfNums ((b.take (q + 512 + m)).drop (q + 512)) = d) {r1 r2 : ByteArray} (hx : recsA (d.size + 1) d ⟨#[]⟩ ⟨#[]⟩ = (r1, r2)) :
    lenM b (f + 1) q p l t = lenM b f (q + 512 + (m + 511) / 512 * 512) r1 r2 t := by
  conv => lhs; unfold lenM
  rw [if_neg h1, hr]
  dsimp only
  rw [if_neg (by simp only [Bool.true_eq_false, false_or]; omega), if_pos rfl, Int.toNat_natCast, hd, hx]
theorem lenM_node (b : List Int) (f q : Nat) (p l : ByteArray) (t : List S47) {nm lk : ByteArray} {kd : Int} {m : Nat} (hr : readR ((b.take (q + 512)).drop q) = (nm, kd, (m : Int), lk, true)) (h1 : ¬ (b.length < q + 512 ∨ 400 < t.length)) (h2 : q + 512 + m ≤ b.length) (hk : ¬ kd = 5) {d : ByteArray} (hd : strOfNums ((b.take (q + 512 + m)).drop (q + 512)) = d) :
    lenM b (f + 1) q p l t = if b.length < q + 512 + (m + 511) / 512 * 512 then t ++ [nodeL nm kd lk d p l] else lenM b f (q + 512 + (m + 511) / 512 * 512) ⟨#[]⟩ ⟨#[]⟩ (t ++ [nodeL nm kd lk d p l]) := by
  conv => lhs; unfold lenM
  rw [if_neg h1, hr]
  dsimp only
  rw [if_neg (by simp only [Bool.true_eq_false, false_or]; omega), if_neg hk, Int.toNat_natCast, hd]
theorem readR_name (b : List Int) : (readR b).1.size ≤ b.length := by
  unfold readR
  split
  · show (readN b).size ≤ _
    unfold readN fieldR
    rw [strN_size]
    have h1 := List.Sublist.length_le (List.takeWhile_sublist (fun x : Int => x != 0) (l := (b.take 100)))
    rw [List.length_take] at h1
    omega
  · exact Nat.zero_le _
theorem nodeL_sizes (nm lk d p l : ByteArray) (kd : Int) (m : Nat) (h1 : nm.size ≤ m) (h2 : lk.size ≤ m) (h3 : d.size ≤ m) (h4 : p.size ≤ m) (h5 : l.size ≤ m) : (nodeL nm kd lk d p l).f0.size ≤ m ∧ (nodeL nm kd lk d p l).f2.size ≤ m := by
  have e0 : (⟨#[]⟩ : ByteArray).size = 0 := rfl
  have hA : (nameL nm p).size ≤ m := by
    unfold nameL
    split
    · exact h1
    · exact h4
  have hB : (nameL lk l).size ≤ m := by
    unfold nameL
    split
    · exact h2
    · exact h5
  unfold nodeL
  refine ⟨?_, ?_⟩
  · dsimp only
    split
    · rw [e0]
      exact Nat.zero_le _
    · exact hA
  · dsimp only
    split
    · exact hB
    · exact h3
theorem dot_list : dotS.toList = [46] := by rw [ByteArray.toList_eq]; rfl
theorem dot_beq : (dotS.toList == [46]) = true := by rw [dot_list]; rfl
theorem nameL_if (a b : ByteArray) : nameL a b = if (b.toList != []) = true then b else a := by
  unfold nameL
  by_cases h : b.size = 0
  · rw [if_pos h, if_neg (by rw [(toList_nil _).2 h]; simp)]
  · rw [if_neg h, if_pos (bne_iff_ne.2 (fun e => h ((toList_nil _).1 e)))]
theorem strN_inj {a b : List Int} (ha : Bytes a) (hb : Bytes b) (h : strOfNums a = strOfNums b) : a = b := by
  apply lib_bytes_inj ha hb
  rw [strOfNums_mk, strOfNums_mk] at h
  have h2 := congrArg (fun s : ByteArray => s.data.toList) h
  exact h2
theorem lenR_step (bs : List Int) (T : List S47) (hby : Bytes bs) (h : lenM bs 200 0 ⟨#[]⟩ ⟨#[]⟩ [] = T) : lenR bs = if ((tarR T).2 != 0) = false ∧ ((strOfNums (tarR T).1).toList != (strOfNums bs).toList) = false then (T, 0) else ([], 5) := by
  unfold lenR
  rw [h]
  unfold tarR
  by_cases ht : treeB T = true
  · rw [if_pos ht]
    have e : ((strOfNums (tarB T)).toList != (strOfNums bs).toList) = false ↔ tarB T = bs := ⟨fun h => strN_inj (tarB_Bytes T) hby (toList_inj.1 (bne_eq_false_iff_eq.1 h)), fun h => by rw [h]; simp⟩
    by_cases hb : tarB T = bs
    · rw [if_pos ⟨ht, hb⟩, if_pos ⟨rfl, e.2 hb⟩]
    · rw [if_neg (fun x => hb x.2), if_neg (fun x => hb (e.1 x.2))]
  · rw [if_neg (fun x => ht x.1), if_neg (fun x => by
      have h2 := x.1
      rw [if_neg ht] at h2
      cases h2)]
set_option maxHeartbeats 8000000 in
set_option maxRecDepth 100000 in
theorem rread_calls (A : Option Addr) (c : Nat) (bs : List Int) (w : World) (hC : (Kd.int .u8).C w A bs.length bs) (hc : bs.length ≤ c) (hl : bs.length ≤ 40000) (hby : Bytes bs) :
    Calls Tryz.prog 21 #[.slice A bs.length c] w fun e w' => ∃ v, e = .returned (.tuple #[v, .int .i64 (lenR bs).2]) ∧ w'.ownsRow w.heap.size 47 3 v (lenR bs).1.length (rowCs (lenR bs).1) ∧ Below w.heap.size w w' := by
  have X := Aside0.mk hC
  have HY := Aside0.mk hby
  clear hC hby
  obtain ⟨R, hR⟩ : ∃ R, lenR bs = R := ⟨_, rfl⟩
  have HR := Aside0.mk hR
  rw [hR]
  clear hR
  obtain ⟨T, hT⟩ : ∃ T, lenM bs 200 0 ⟨#[]⟩ ⟨#[]⟩ [] = T := ⟨_, rfl⟩
  have HT := Aside0.mk hT
  clear hT
  go_enter Tryz.func21, Tryz.ntmps21
  go_upto_block 0 with (fail)
  go_cut [4] (fun v4 wc => Aside0 (wc.ownsRow w.heap.size 47 3 v4 T.length (rowCs T)) ∧ Aside0 (Below w.heap.size w wc) ∧ T.length ≤ 401 ∧ Aside0 (∀ n ∈ T, n.f0.size ≤ 50000 ∧ n.f2.size ≤ 50000))
  case first =>
    go_wp2_with fail
    go_loopw [4, 5, 6, 7] (fun v4 v5 v6 v7 wr => ∃ (t : List S47) (q f : Nat) (p l : ByteArray), v5 = .int .i64 q ∧ v6 = .string p ∧ v7 = .string l ∧ q ≤ bs.length + 512 ∧ 102400 ≤ 512 * f + q ∧ t.length ≤ 401 ∧ p.size ≤ 40000 ∧ l.size ≤ 40000 ∧ Aside0 (∀ n ∈ t, n.f0.size ≤ 50000 ∧ n.f2.size ≤ 50000) ∧ Aside0 (T = lenM bs f q p l t) ∧ Aside0 (wr.ownsRow w.heap.size 47 3 v4 t.length (rowCs t)) ∧ Aside0 (Below w.heap.size w wr)) (fun _ v _ _ _ => 102400 - (intOf v).toNat)
    case atStart => exact ⟨[], 0, 200, ⟨#[]⟩, ⟨#[]⟩, rfl, rfl, rfl, by omega, by omega, by simp, by decide, by decide, ⟨fun n hn => by cases hn⟩, ⟨HT.out.symm⟩, ⟨⟨rfl, .inl ⟨rfl, rfl⟩⟩⟩, ⟨Below.refl _ _⟩⟩
    case round =>
      clear HT
      obtain ⟨t, q, f, p, l, rfl, rfl, rfl, hq, hfq, ht, hps, hls, HS, HM, HO, HB⟩ := hrel
      obtain ⟨At, ct, rfl⟩ := own_slice HO.out
      obtain ⟨f, rfl⟩ : ∃ k, f = k + 1 := ⟨f - 1, by omega⟩
      have hq0 : 0 ≤ (q : Int) := by omega
      by_cases g1 : bs.length < q + 512
      · have hge : decide ((512 : Int) ≤ (bs.length : Int) - (q : Int)) = false := decide_eq_false (by omega)
        have HE := Aside0.mk (show T = t from by rw [HM.out, lenM_stop1 _ _ _ _ _ _ (.inl g1)])
        clear g1
        go_wp2_with fail
        go_meet
        rw [HE.out]
        exact ⟨HO, HB, ht, HS⟩
      · have hge : decide ((512 : Int) ≤ (bs.length : Int) - (q : Int)) = true := decide_eq_true (by omega)
        by_cases g2 : 400 < t.length
        · have hg4 : decide ((t.length : Int) ≤ 400) = false := decide_eq_false (by omega)
          have hg4n : decide (t.length ≤ 400) = false := decide_eq_false (by omega)
          have HE := Aside0.mk (show T = t from by rw [HM.out, lenM_stop1 _ _ _ _ _ _ (.inr g2)])
          clear g1 g2
          go_wp2_with fail
          go_meet
          rw [HE.out]
          exact ⟨HO, HB, ht, HS⟩
        · have hg4 : decide ((t.length : Int) ≤ 400) = true := decide_eq_true (by omega)
          have hg4n : decide (t.length ≤ 400) = true := decide_eq_true (by omega)
          obtain ⟨ad, hA, _⟩ := X.out.2.2 (by omega)
          subst hA
          have hcq : decide (c = q) = false := decide_eq_false (by omega)
          have hcqn : c ≠ q := by omega
          have hqb : q + 512 ≤ bs.length := by omega
          have ht4 : t.length ≤ 400 := by omega
          have HG := Aside0.mk (show ¬ (bs.length < q + 512 ∨ 400 < t.length) from by omega)
          have HCm := Aside0.mk (Kd.C_mid (lo := q) (hi := q + 512) (Kd.C_below X.out HB.out) (by omega) (by omega) hc)
          rw [if_neg hcqn] at HCm
          obtain ⟨KR, hKR⟩ := ref_read_eq ((bs.take (q + 512)).drop q) (bytes_cut HY.out _ _)
          have HKR := Aside0.mk (hKR KR (Nat.le_refl _))
          have hl5 : ((bs.take (q + 512)).drop q).length = 512 := by rw [List.length_drop, List.length_take]; omega
          obtain ⟨⟨nm, kd, sz, lk, ok⟩, hrd⟩ : ∃ r, readR ((bs.take (q + 512)).drop q) = r := ⟨_, rfl⟩
          have hnm : nm.size ≤ 512 := by
            have := readR_name ((bs.take (q + 512)).drop q)
            rw [hrd, hl5] at this
            exact this
          have hlk : lk.size ≤ 512 := by
            have := readR_link ((bs.take (q + 512)).drop q)
            rw [hrd, hl5] at this
            exact this
          have hsz : 0 ≤ sz ∧ sz < 9223372036854775808 := by
            have := readR_range ((bs.take (q + 512)).drop q)
            rw [hrd] at this
            exact this
          obtain ⟨m, hm⟩ := Int.eq_ofNat_of_zero_le hsz.1
          subst hm
          have HM63 := Aside0.mk hsz.2
          have HRd := Aside0.mk hrd
          rw [hrd] at HKR
          clear hKR hrd hsz g1 g2
          have HCall := Aside0.mk (hogsheadref12_Read.calls KR (some (ad.add q)) (c - q) ((bs.take (q + 512)).drop q) nm kd (m : Int) lk ok wr (by
            have h1 := HCm.out
            have e : q * (Kd.int IntKind.u8).sz = q := Nat.mul_one q
            rw [e] at h1
            exact h1) (by rw [hl5]; omega) HKR.out)
          rw [hl5] at HCall
          clear HKR HCm hl5
          cases ok with
          | false =>
            have HE := Aside0.mk (show T = t from by rw [HM.out, lenM_stop2 _ _ _ _ _ _ HRd.out (.inl rfl)])
            clear HM HRd
            go_wp2_with (go_at_call 41; refine HCall.out.mono ?_; rintro e w2 ⟨rfl, hw2⟩; have HB2 := Aside0.mk (below_step HB.out hw2); have HO2 := Aside0.mk (ownG HO.out hw2); clear hw2 HCall HB HO)
            go_meet
            rw [HE.out]
            exact ⟨HO2, HB2, ht, HS⟩
          | true =>
            by_cases g3 : (bs.length : Int) - (q : Int) - 512 < (m : Int)
            · have hg3 : decide ((bs.length : Int) - (q : Int) - 512 < (m : Int)) = true := decide_eq_true g3
              have HE := Aside0.mk (show T = t from by rw [HM.out, lenM_stop2 _ _ _ _ _ _ HRd.out (.inr g3)])
              clear HM HRd g3
              go_wp2_with (go_at_call 41; refine HCall.out.mono ?_; rintro e w2 ⟨rfl, hw2⟩; have HB2 := Aside0.mk (below_step HB.out hw2); have HO2 := Aside0.mk (ownG HO.out hw2); clear hw2 HCall HB HO)
              go_meet
              rw [HE.out]
              exact ⟨HO2, HB2, ht, HS⟩
            · have hg3 : decide ((bs.length : Int) - (q : Int) - 512 < (m : Int)) = false := decide_eq_false g3
              have h2 : q + 512 + m ≤ bs.length := by omega
              have hm0 : 0 ≤ (m : Int) := by omega
              clear g3
              have hld : ((bs.take (q + 512 + m)).drop (q + 512)).length = m := by rw [List.length_drop, List.length_take]; omega
              obtain ⟨d, hd⟩ : ∃ d, strOfNums ((bs.take (q + 512 + m)).drop (q + 512)) = d := ⟨_, rfl⟩
              have hds : d.size = m := by rw [← hd, strN_size, hld]
              have HDd := Aside0.mk hd
              have HLD := Aside0.mk hld
              clear hld hd
              go_upto_region 6 with (go_at_call 41; refine HCall.out.mono ?_; rintro e w2 ⟨rfl, hw2⟩; have HB2 := Aside0.mk (below_step HB.out hw2); have HO2 := Aside0.mk (ownG HO.out hw2); clear hw2 HCall HB HO)
              have hld := HLD.out
              have HCd := Aside0.mk (Kd.C_mid (lo := q + 512) (hi := q + 512 + m) (Kd.C_below X.out HB2.out) (by omega) (by omega) hc)
              rw [hld] at HCd
              have hszz : (q + 512) * (Kd.int IntKind.u8).sz = q + 512 := Nat.mul_one _
              rw [hszz] at HCd
              obtain ⟨A2, hA2⟩ : ∃ A2, (if c = q + 512 then some ad else Option.map (·.add (q + 512)) (some ad)) = A2 := ⟨_, rfl⟩
              rw [hA2] at HCd
              have HK := Aside0.mk (show (convert 26 9 (.slice A2 m (c - (q + 512)))).run Tryz.prog w2 = .ok (.string (strOfNums ((bs.take (q + 512 + m)).drop (q + 512)))) w2 from by
                have h1 := Kd.C_string Tryz.underlying26 Tryz.underlying5 Tryz.underlying9 (c := c - (q + 512)) (show (Kd.int .u8).C w2 A2 ((bs.take (q + 512 + m)).drop (q + 512)).length ((bs.take (q + 512 + m)).drop (q + 512)) from by rw [hld]; exact HCd.out)
                rw [hld] at h1
                exact h1)
              rw [HDd.out] at HK
              clear hszz hld HCd
              go_cut [13] (fun v13 wc => v13 = .string d ∧ Aside0 (wc = w2))
              case first =>
                by_cases hcm : c = q + 512
                · rw [if_pos hcm] at hA2
                  subst hA2
                  have hk := HK.out
                  rw [show c - (q + 512) = 0 from by omega] at hk
                  go_wp2_with fail
                  go_meet
                  exact ⟨rfl, ⟨rfl⟩⟩
                · rw [if_neg hcm] at hA2
                  obtain rfl : some (ad.add (q + 512)) = A2 := hA2
                  have hk := HK.out
                  rw [show ad.add (q + 512) = ⟨ad.block, ad.off + (q + 511 + 1), none⟩ from by unfold Addr.add; simp] at hk
                  go_wp2_with fail
                  go_meet
                  exact ⟨rfl, ⟨rfl⟩⟩
              case rest =>
                obtain ⟨rfl, hW⟩ := hcut
                obtain rfl := hW.out
                clear hW hA2 HK
                obtain ⟨b5, hb5⟩ : ∃ b, (kd == 5) = b := ⟨_, rfl⟩
                have hm4 : m ≤ 40000 := by omega
                have HQ := Aside0.mk (show q + 512 + (m + 511) / 512 * 512 ≤ bs.length + 512 ∧ 102400 ≤ 512 * f + (q + 512 + (m + 511) / 512 * 512) from by omega)
                cases b5 with
                | true =>
                  obtain rfl : kd = 5 := beq_iff_eq.1 hb5
                  obtain ⟨⟨r1, r2⟩, hrc⟩ : ∃ r, recsA (d.size + 1) d ⟨#[]⟩ ⟨#[]⟩ = r := ⟨_, rfl⟩
                  have hrz : r1.size ≤ 40000 ∧ r2.size ≤ 40000 := by
                    have := recsA_size (d.size + 1) d ⟨#[]⟩ ⟨#[]⟩ 40000 (by omega) (by decide) (by decide)
                    rw [hrc] at this
                    exact this
                  have HM2 := Aside0.mk (show T = lenM bs f (q + 512 + (m + 511) / 512 * 512) r1 r2 t from by rw [HM.out, lenM_rec bs f q p l t HRd.out HG.out h2 HDd.out hrc])
                  have HRc := Aside0.mk (refRecords_calls d wc (by omega))
                  rw [hrc] at HRc
                  clear HM hrc HRd HDd HG hb5
                  obtain ⟨hz1, hz2⟩ := hrz
                  go_wp2_with fail
                  refine HRc.out.mono ?_
                  rintro e w3 ⟨rfl, hw3⟩
                  have HB3 := Aside0.mk (below_step HB2.out hw3)
                  have HO3 := Aside0.mk (ownG HO2.out hw3)
                  clear hw3 HRc HB2 HO2
                  go_wp2_with fail
                  exact ⟨⟨t, q + 512 + (m + 511) / 512 * 512, f, r1, r2, by first | rfl | (congr 1; omega), rfl, rfl, HQ.out.1, HQ.out.2, ht, hz1, hz2, HS, HM2, HO3, HB3⟩, by simp only [intOf]; omega⟩
                | false =>
                  have hk5 : ¬ kd = 5 := fun e => by rw [e] at hb5; cases hb5
                  have HNd := Aside0.mk (lenM_node bs f q p l t HRd.out HG.out h2 hk5 HDd.out)
                  have hzn := nodeL_sizes nm lk d p l kd 50000 (by omega) (by omega) (by omega) (by omega) (by omega)
                  have HS2 := Aside0.mk (show ∀ n ∈ t ++ [nodeL nm kd lk d p l], n.f0.size ≤ 50000 ∧ n.f2.size ≤ 50000 from fun n hn => by
                    rcases List.mem_append.1 hn with h | h
                    · exact HS.out n h
                    · rw [List.mem_singleton.1 h]
                      exact hzn)
                  clear hk5 HRd HG HDd hzn
                  obtain ⟨bp, hbp⟩ : ∃ b, (p.toList != []) = b := ⟨_, rfl⟩
                  obtain ⟨bl, hbl⟩ : ∃ b, (l.toList != []) = b := ⟨_, rfl⟩
                  obtain ⟨b4, hb4⟩ : ∃ b, (kd == 4) = b := ⟨_, rfl⟩
                  obtain ⟨X1, hX1⟩ : ∃ z, nameL nm p = z := ⟨_, rfl⟩
                  obtain ⟨X2, hX2⟩ : ∃ z, nameL lk l = z := ⟨_, rfl⟩
                  obtain ⟨bd, hbd⟩ : ∃ b, (X1.toList == [46]) = b := ⟨_, rfl⟩
                  have HF0 := Aside0.mk (show (nodeL nm kd lk d p l).f0 = if bd = true then ⟨#[]⟩ else X1 from by
                    show (if nameL nm p = dotS then (⟨#[]⟩ : ByteArray) else nameL nm p) = _
                    rw [hX1]
                    by_cases h : X1 = dotS
                    · rw [if_pos h, if_pos (by rw [← hbd, h]; exact dot_beq)]
                    · rw [if_neg h, if_neg (fun e => h (toList_inj.1 (by rw [← hbd] at e; exact (beq_iff_eq.1 e).trans dot_list.symm)))])
                  have HF2 := Aside0.mk (show (nodeL nm kd lk d p l).f2 = if b4 = true then X2 else d from by
                    show (if kd = 4 then nameL lk l else d) = _
                    rw [hX2]
                    by_cases h : kd = 4
                    · rw [if_pos h, if_pos (by rw [← hb4]; exact beq_iff_eq.2 h)]
                    · rw [if_neg h, if_neg (fun e => h (by rw [← hb4] at e; exact beq_iff_eq.1 e))])
                  have HF1 := Aside0.mk (show (nodeL nm kd lk d p l).f1 = kd from rfl)
                  have hbp2 : (p.toList == []) = !bp := by rw [← hbp]; simp [bne]
                  have hbl2 : (l.toList == []) = !bl := by rw [← hbl]; simp [bne]
                  have HX1 : (X1 = p ∧ bp = true) ∨ (X1 = nm ∧ bp = false) := by
                    have h := hX1.symm.trans ((nameL_if nm p).trans (by rw [hbp]))
                    cases bp with
                    | true => exact .inl ⟨h, rfl⟩
                    | false => exact .inr ⟨h, rfl⟩
                  have HX2 : (X2 = l ∧ bl = true) ∨ (X2 = lk ∧ bl = false) := by
                    have h := hX2.symm.trans ((nameL_if lk l).trans (by rw [hbl]))
                    cases bl with
                    | true => exact .inl ⟨h, rfl⟩
                    | false => exact .inr ⟨h, rfl⟩
                  have HNC := Aside0.mk (show nodeCs (nodeL nm kd lk d p l) = [.string (if bd = true then ⟨#[]⟩ else X1), .int .i64 kd, .string (if b4 = true then X2 else d)] from by
                    unfold nodeCs
                    rw [HF0.out, HF1.out, HF2.out])
                  clear hX1 hX2 HF0 HF1 HF2
                  generalize nodeL nm kd lk d p l = n at *
                  have HRW := Aside0.mk (show rowCs (t ++ [n]) = rowCs t ++ nodeCs n from by
                    unfold rowCs
                    rw [List.flatMap_append]
                    simp)
                  have HRL := Aside0.mk (show (t ++ [n]).length = t.length + 1 from by simp)
                  by_cases g5 : bs.length < q + 512 + (m + 511) / 512 * 512
                  · have HE := Aside0.mk (show T = t ++ [n] from by rw [HM.out, HNd.out, if_pos g5])
                    have hg5 : decide ((bs.length : Int) < (q : Int) + 512 + ((m : Int) + 511) / 512 * 512) = true := decide_eq_true (by omega)
                    clear HM HNd g5
                    rcases HX1 with ⟨rfl, rfl⟩ | ⟨rfl, rfl⟩ <;> rcases HX2 with ⟨rfl, rfl⟩ | ⟨rfl, rfl⟩ <;> cases bd <;> cases b4 <;> (
                      go_wp2_with (at_builtin; refine print_append_cells (w0 := w) w.heap.size rfl (.tmp 83) (.tmp 88) 22 47 (.agg #[.string ⟨#[]⟩, .int .i64 0, .string ⟨#[]⟩]) 3 40 rfl Tryz.underlying22 (by kernel_rfl) rfl (by decide) (by decide) (.slice At t.length ct) t.length (rowCs t) [_, _, _] rfl rfl rfl (by intro u hu; simp only [List.mem_cons, List.not_mem_nil, or_false] at hu; rcases hu with rfl | rfl | rfl <;> rfl) HO2.out HB2.out HB2.out.size (by omega) ?_; intro v4 w4 ho4 hb4 hg4 _; have HO4 := Aside0.mk ho4; have HB4 := Aside0.mk hb4; clear ho4 hb4 hg4)
                      go_meet
                      rw [HE.out]
                      exact ⟨⟨by rw [HRL.out, HRW.out, HNC.out]; exact HO4.out⟩, HB4, by rw [HRL.out]; omega, HS2⟩)
                  · have HM2 := Aside0.mk (show T = lenM bs f (q + 512 + (m + 511) / 512 * 512) ⟨#[]⟩ ⟨#[]⟩ (t ++ [n]) from by rw [HM.out, HNd.out, if_neg g5])
                    have hg5 : decide ((bs.length : Int) < (q : Int) + 512 + ((m : Int) + 511) / 512 * 512) = false := decide_eq_false (by omega)
                    clear HM HNd g5
                    rcases HX1 with ⟨rfl, rfl⟩ | ⟨rfl, rfl⟩ <;> rcases HX2 with ⟨rfl, rfl⟩ | ⟨rfl, rfl⟩ <;> cases bd <;> cases b4 <;> (
                      go_wp2_with (at_builtin; refine print_append_cells (w0 := w) w.heap.size rfl (.tmp 83) (.tmp 88) 22 47 (.agg #[.string ⟨#[]⟩, .int .i64 0, .string ⟨#[]⟩]) 3 40 rfl Tryz.underlying22 (by kernel_rfl) rfl (by decide) (by decide) (.slice At t.length ct) t.length (rowCs t) [_, _, _] rfl rfl rfl (by intro u hu; simp only [List.mem_cons, List.not_mem_nil, or_false] at hu; rcases hu with rfl | rfl | rfl <;> rfl) HO2.out HB2.out HB2.out.size (by omega) ?_; intro v4 w4 ho4 hb4 hg4 _; have HO4 := Aside0.mk ho4; have HB4 := Aside0.mk hb4; clear ho4 hb4 hg4)
                      obtain ⟨A4, c4, rfl⟩ := own_slice HO4.out
                      exact ⟨⟨t ++ [n], q + 512 + (m + 511) / 512 * 512, f, ⟨#[]⟩, ⟨#[]⟩, by first | rfl | (congr 1; omega), rfl, rfl, HQ.out.1, HQ.out.2, by rw [HRL.out]; omega, by decide, by decide, HS2, HM2, ⟨by rw [HRL.out, HRW.out, HNC.out]; exact HO4.out⟩, HB4⟩, by simp only [intOf]; omega⟩)
  case rest =>
    obtain ⟨HO, HB, hTl, HS⟩ := hcut
    obtain ⟨A4, c4, e4, hc4, hC4⟩ := row_reads HO.out
    subst e4
    have HF := Aside0.mk (lenR_step bs T HY.out HT.out)
    rw [HR.out] at HF
    have HLy := Aside0.mk (refLay_calls A4 c4 T wc hC4 hc4 (by omega) (fun n hn => by have := HS.out n hn; omega))
    clear HT HR hC4 HS
    go_wp2_with fail
    refine HLy.out.mono ?_
    rintro e w5 ⟨v5, rfl, ho5, hb5⟩
    obtain ⟨A5, c5, rfl, hR5⟩ := own_reads ho5
    have HB5 := Aside0.mk (below_step HB.out hb5)
    have HO5 := Aside0.mk (ownG HO.out hb5)
    have hk1 := show (convert 26 9 (.slice A5 (tarR T).1.length c5)).run Tryz.prog w5 = .ok (.string (strOfNums (tarR T).1)) w5 from Kd.C_string Tryz.underlying26 Tryz.underlying5 Tryz.underlying9 (Kd.C_of_reads (d := (0 : Int)) (h1 := fun _ => rfl) hR5)
    have hk2 := show (convert 26 9 (.slice A bs.length c)).run Tryz.prog w5 = .ok (.string (strOfNums bs)) w5 from Kd.C_string Tryz.underlying26 Tryz.underlying5 Tryz.underlying9 (Kd.C_below X.out HB5.out)
    obtain ⟨be, hbe⟩ : ∃ b, ((tarR T).2 != 0) = b := ⟨_, rfl⟩
    obtain ⟨bq, hbq⟩ : ∃ b, ((strOfNums (tarR T).1).toList != (strOfNums bs).toList) = b := ⟨_, rfl⟩
    have hbe2 : ((tarR T).2 == 0) = !be := by rw [← hbe]; simp [bne]
    have hbq2 : ((strOfNums (tarR T).1).toList == (strOfNums bs).toList) = !bq := by rw [← hbq]; simp [bne]
    rw [hbe, hbq] at HF
    clear ho5 hb5 hR5 HLy HO HB
    generalize (tarR T).2 = code at *
    generalize strOfNums (tarR T).1 = s1 at *
    generalize strOfNums bs = s2 at *
    generalize (tarR T).1.length = tl at *
    cases be with
    | true =>
      have HRv := Aside0.mk (show R = ([], 5) from by rw [HF.out, if_neg (by simp)])
      clear HF
      go_wp2_with fail
      go_ret2
      rw [HRv.out]
      exact ⟨_, rfl, ⟨rfl, .inl ⟨rfl, rfl⟩⟩, HB5.out⟩
    | false =>
      cases bq with
      | true =>
        have HRv := Aside0.mk (show R = ([], 5) from by rw [HF.out, if_neg (by simp)])
        clear HF
        go_wp2_with fail
        go_ret2
        rw [HRv.out]
        exact ⟨_, rfl, ⟨rfl, .inl ⟨rfl, rfl⟩⟩, HB5.out⟩
      | false =>
        have HRv := Aside0.mk (show R = (T, 0) from by rw [HF.out, if_pos ⟨rfl, rfl⟩])
        clear HF
        go_wp2_with fail
        go_ret2
        rw [HRv.out]
        exact ⟨_, rfl, HO5.out, HB5.out⟩
end Go.Proofs.YtdijnmcfpbceaaaGreatDoor.X

namespace Go.Proofs.YtdijnmcfpbceaaaGreatDoor.P
open Go.Proofs.YtdijnmcfpbceaaaGreatDoor.X
open Go.RowKit Go.Proofs.YtdijnmcfpbceaaaGreatDoorW.PrintWords Go.Proofs.YtdijnmcfpbceaaaGreatDoorW.PrintLast Go.Proofs.YtdijnmcfpbceaaaGreatDoorW.PrintMore
attribute [local go_sem] min2_int min_two
set_option linter.unusedVariables false
set_option linter.unusedSimpArgs false
def hogsheadlaw0_Num.f (a0 : Int) : Option (Int) := some a0
set_option maxHeartbeats 8000000 in
set_option maxRecDepth 100000 in
theorem hogsheadlaw0_Num.calls (a0 : Int) (r : Int) (w : World) (h : hogsheadlaw0_Num.f a0 = some r) :
  Calls Tryz.prog 13 #[.int .i64 a0] w fun e w' => e = .returned (.int .i64 r) ∧ Drawn0 w w' := by
 have H : (some a0) = some r := h
 clear h
 obtain rfl := Option.some.inj H
 go_enter Tryz.func13, Tryz.ntmps13
 go_wp2
 go_ret
 exact ⟨by first | rfl | (simp; done) | (simp [*]; done), by repeat (first | exact Drawn0.refl _ | apply Drawn0.step)⟩
end Go.Proofs.YtdijnmcfpbceaaaGreatDoor.P

namespace Go.Proofs.YtdijnmcfpbceaaaGreatDoor.X
open Go.RowKit Go.Proofs.YtdijnmcfpbceaaaGreatDoorW.PrintWords Go.Proofs.YtdijnmcfpbceaaaGreatDoor.P
set_option linter.unusedVariables false
set_option linter.unusedSimpArgs false
variable {α : Type}
def LentTo (e : Nat) (enc : α → Value) (mark : Value) (W : World) (g cap : Nat) (xs : List α) (m : Nat) : Prop :=
  ∃ cells : Array Value, W.heap[g]? = some (.cells cells e (0, 0)) ∧ cells.size = cap ∧ cap = xs.length + 3 ∧ (∀ (j : Nat) x, xs[j]? = some x → cells[j]? = some (enc x)) ∧ (∀ j, j < m → cells[xs.length + j]? = some mark)
theorem LentTo.below {e : Nat} {enc : α → Value} {mark : Value} {W W1 : World} {g cap m : Nat} {xs : List α} (h : LentTo e enc mark W g cap xs m) (hb : Below W.heap.size W W1) : LentTo e enc mark W1 g cap xs m := by
  obtain ⟨cells, hg, h1⟩ := h
  have hlt : g < W.heap.size := (Array.getElem?_eq_some_iff.1 hg).1
  exact ⟨cells, (hb.block g hlt).trans hg, h1⟩
theorem LentTo.reads {e : Nat} {k : IntKind} {mark : Value} {W : World} {g cap m : Nat} {xs : List Int} (h : LentTo e (Value.int k) mark W g cap xs m) (hm : xs.length ≤ 9223372036854775807) : (Kd.int k).C W (some ⟨g, 0, none⟩) xs.length xs := by
  obtain ⟨cells, hg, h1, h2, h3, h4⟩ := h
  refine Kd.C_of_reads (d := (0 : Int)) (h1 := fun _ => rfl) ⟨rfl, hm, fun _ => ⟨_, rfl, fun j hj => ?_⟩⟩
  rw [add_plain]
  have h5 := h3 j (xs.getD j 0) (by rw [List.getD_eq_getElem?_getD, List.getElem?_eq_getElem hj]; rfl)
  simp [World.cell?, hg, h5]
theorem LentTo.room {e : Nat} {enc : α → Value} {mark : Value} {W : World} {g cap m : Nat} {xs : List α} (h : LentTo e enc mark W g cap xs m) : xs.length ≤ cap := by
  obtain ⟨cells, hg, h1, h2, h3⟩ := h
  omega
theorem LentTo.mark_cell {e : Nat} {enc : α → Value} {mark : Value} {W : World} {g cap m : Nat} {xs : List α} (h : LentTo e enc mark W g cap xs m) {j : Nat} (hj : j < m) : W.cell? ⟨g, xs.length + j, none⟩ = some mark := by
  obtain ⟨cells, hg, h1, h2, h3, h4⟩ := h
  simp [World.cell?, hg, h4 j hj]
theorem LentTo.put {e : Nat} {enc : α → Value} {mark : Value} {W : World} {g cap m : Nat} {xs : List α} (h : LentTo e enc mark W g cap xs m) (hm : m < 3) : LentTo e enc mark (W.setCell ⟨g, xs.length + m, none⟩ mark) g cap xs (m + 1) := by
  obtain ⟨cells, hg, h1, h2, h3, h4⟩ := h
  refine ⟨cells.setIfInBounds (xs.length + m) mark, ?_, by simp [h1], h2, fun j x hj => ?_, fun j hj => ?_⟩
  · have hlt : g < W.heap.size := (Array.getElem?_eq_some_iff.1 hg).1
    have hge : W.heap[g] = .cells cells e (0, 0) := by have := (Array.getElem?_eq_some_iff.1 hg).2; exact this
    simp [World.setCell, Array.getElem?_modify, hg]
  · have hl : j < xs.length := (List.getElem?_eq_some_iff.1 hj).1
    rw [Array.getElem?_setIfInBounds_ne (by omega)]; exact h3 j x hj
  · by_cases hjm : j = m
    · subst hjm; rw [Array.getElem?_setIfInBounds]; simp; omega
    · rw [Array.getElem?_setIfInBounds_ne (by omega)]; exact h4 j (by omega)
theorem LentTo.cell_any {e : Nat} {enc : α → Value} {mark : Value} {W : World} {g cap m : Nat} {xs : List α} (h : LentTo e enc mark W g cap xs m) {j : Nat} (hj : j < cap) : ∃ v, W.cell? ⟨g, j, none⟩ = some v := by
  obtain ⟨cells, hg, h1, h2, h3, h4⟩ := h
  exact ⟨cells[j]'(by omega), by simp [World.cell?, hg]⟩
theorem LentTo.unfrozen {e : Nat} {enc : α → Value} {mark : Value} {W : World} {g cap m : Nat} {xs : List α} (h : LentTo e enc mark W g cap xs m) (j : Nat) : W.frozen? ⟨g, j, none⟩ = false := by
  obtain ⟨cells, hg, _⟩ := h
  simp [World.frozen?, hg]
theorem lent_append (w : World) (A0 : Option Addr) (c0 : Nat) (l0 : List Int) (hr0 : (Kd.int .u8).C w A0 l0.length l0) :
    ∃ W2, (Builtin.append_ #[26, 26] 26 #[.slice (some ⟨w.heap.size, 0, none⟩) 0 (l0.length + 3), .slice A0 l0.length c0]).run Tryz.prog (w.alloc (.cells (madeCells #[.int .u8 0] (l0.length + 3)) 5)) = .ok (.slice (some ⟨w.heap.size, 0, none⟩) l0.length (l0.length + 3)) W2 ∧
      LentTo 5 (Value.int .u8) (.int .u8 119) W2 w.heap.size (l0.length + 3) l0 0 ∧ Below w.heap.size w W2 := by
  have hsz : ∀ n, (madeCells #[Value.int .u8 0] n).size = n := fun n => by simp [madeCells]
  have hnew : (w.alloc (.cells (madeCells #[.int .u8 0] (l0.length + 3)) 5)).heap[w.heap.size]? = some (.cells (madeCells #[.int .u8 0] (l0.length + 3)) 5 (0, 0)) := by simp [World.alloc, -World.alloc_eq]
  have hB := (Below.refl w.heap.size w).alloc (Nat.le_refl _) (.cells (madeCells #[.int .u8 0] (l0.length + 3)) 5)
  obtain ⟨i0, hi, hz0, hz1, hz2⟩ := info_parts (show (Tryz.prog.info? 5).map (fun i => (i.zero, i.size, i.bytes)) = some (some (.int .u8 0), 1, 1) by kernel_rfl)
  cases A0 with
  | none =>
    have h0 : l0 = [] := by
      rcases l0 with _ | ⟨x, l⟩
      · rfl
      · obtain ⟨ad, e, _⟩ := hr0.2.2 (by simp)
        cases e
    subst h0
    refine ⟨_, ?_, ⟨_, hnew, by rw [hsz], rfl, by simp, fun j hj => by omega⟩, hB⟩
    simp [Builtin.append_, run_underlying Tryz.underlying26, sizeOf, typeInfo, hi, Builtin.lenOf, run_firstCells_none, storeCells]
  | some ad =>
    obtain ⟨news, hnr, hnc⟩ := ReadsRow.inner_ hr0
    have hnl : news.length = l0.length := by have := hnr.1; rw [this]; show l0.length * 1 = _; omega
    have hone : ∀ u ∈ news, u.oneCell' = true := by
      intro u hu
      obtain ⟨j, hj, rfl⟩ := List.mem_iff_getElem.1 hu
      have hjl : j < l0.length := by omega
      have h2 := hnr.2 j _ (List.getElem?_eq_getElem hjl)
      have h3 : List.take 1 (List.drop (j * 1) news) = [.int .u8 l0[j]] := h2
      have h4 : news[j]? = some (.int .u8 l0[j]) := by
        have := congrArg (fun l => l[0]?) h3
        simpa using this
      rw [List.getElem?_eq_getElem hj] at h4
      have h5 : news[j] = .int .u8 l0[j] := by simpa using h4
      rw [h5]; rfl
    have hat : ∀ (j : Nat) x, l0[j]? = some x → news[j]? = some (.int .u8 x) := by
      intro j x hx
      have h2 := hnr.2 j _ hx
      have h3 : List.take 1 (List.drop (j * 1) news) = [.int .u8 x] := h2
      have := congrArg (fun l => l[0]?) h3
      simpa using this
    have hrun := run_append_room (P := Tryz.prog) (w.alloc (.cells (madeCells #[.int .u8 0] (l0.length + 3)) 5)) 26 26 5 i0 Tryz.underlying26 hi w.heap.size 0 (l0.length + 3) _ hnew ad l0.length c0 news (by rw [hz1, hnl]; omega) (fun j u hu => pw_cell_below hB (hnc j u hu)) hone (by omega) (by rw [hnl, hsz]; omega)
    simp only [Nat.zero_mul, Nat.zero_add, List.take_zero, List.nil_append] at hrun
    refine ⟨_, hrun, ?_, ?_⟩
    · refine ⟨(news ++ (madeCells #[Value.int .u8 0] (l0.length + 3)).toList.drop news.length).toArray, ?_, ?_, rfl, ?_, fun j hj => by omega⟩
      · simp only [World.setRow, Array.getElem?_modify, hnew]; simp
      · simp [hsz, hnl]
      · intro j x hx
        have h1 := hat j x hx
        have hj : j < news.length := (List.getElem?_eq_some_iff.1 h1).1
        simp only [List.getElem?_toArray]
        rw [List.getElem?_append_left hj]
        exact h1
    · refine ⟨rfl, rfl, rfl, by simp [World.setRow, World.alloc, -World.alloc_eq], fun i hi2 => ?_⟩
      have hne : ¬ w.heap.size = i := by omega
      simp [World.setRow, Array.getElem?_modify, World.alloc, -World.alloc_eq, hne, Array.getElem?_push, Ne.symm hne]
set_option maxHeartbeats 1600000 in
set_option maxRecDepth 100000 in
theorem lendBytes_calls (A0 : Option Addr) (c0 : Nat) (l0 : List Int) (w : World) (hr0 : (Kd.int .u8).C w A0 l0.length l0) (hl : l0.length ≤ 1000000000) :
    Calls Tryz.prog 19 #[.slice A0 l0.length c0] w fun e w' => ∃ g cap : Nat, e = .returned (.slice (some ⟨g, 0, none⟩) l0.length cap) ∧ LentTo 5 (Value.int .u8) (.int .u8 119) w' g cap l0 3 ∧ w.heap.size ≤ g ∧ Below w.heap.size w w' := by
  obtain ⟨W2, hap, hL, hB⟩ := lent_append w A0 c0 l0 hr0
  obtain ⟨n, hn⟩ : ∃ n, l0.length = n := ⟨_, rfl⟩
  have HN := Aside0.mk hn
  rw [hn] at hl hr0 hap hL ⊢
  clear hr0
  have HL := Aside0.mk hL
  have HB := Aside0.mk hB
  have HP := Aside0.mk hap
  clear hn hL hB hap
  have hmk : ∀ W : World, (Instr.makeSlice 26 (.int .i64 0) (.int .i64 ((n : Int) + 3))).run Tryz.prog W = .ok (.slice (some ⟨W.heap.size, 0, none⟩) 0 (n + 3)) (W.alloc (.cells (madeCells #[.int .u8 0] (n + 3)) 5)) := by
    intro W
    obtain ⟨i0, hi, hz0, hz1, hz2⟩ := info_parts (show (Tryz.prog.info? 5).map (fun i => (i.zero, i.size, i.bytes)) = some (some (.int .u8 0), 1, 1) by kernel_rfl)
    have h := run_make (P := Tryz.prog) W 26 5 i0 (.int .u8 0) Tryz.underlying26 hi hz0 .i64 .i64 0 ((n : Int) + 3) (by omega) (by omega) (by rw [hz2]; omega) (by omega)
    have e1 : ((n : Int) + 3).toNat = n + 3 := by omega
    simp only [e1, hz1, Nat.mul_one] at h
    exact h
  go_enter Tryz.func19, Tryz.ntmps19
  go_wp2_with (at_builtin; refine wpList_append_run rfl _ _ 26 26 rfl _ _ _ W2 rfl rfl HP.out ?_)
  have e3 : n + 3 - n = 3 := by omega
  simp only [e3]
  clear e3 hmk HP
  go_loopw [5] (fun vi wr => ∃ k : Nat, k ≤ 3 ∧ vi = .int .i64 k ∧ Aside0 (LentTo 5 (Value.int .u8) (.int .u8 119) wr w.heap.size (n + 3) l0 k) ∧ Aside0 (Below w.heap.size w wr)) (fun vi _ => 3 - (intOf vi).toNat)
  case atStart => exact ⟨0, by omega, rfl, HL, HB⟩
  case round =>
    clear HL HB
    obtain ⟨k, hk, rfl, HL, HB⟩ := hrel
    by_cases hlt : k < 3
    · obtain ⟨v, hv⟩ := HL.out.cell_any (j := n + k) (by omega)
      have hfz := HL.out.unfrozen (n + k)
      go_wp2
      go_roundw
      case rel => exact ⟨k + 1, by omega, by go_num, ⟨by have := HL.out.put hlt; rw [HN.out] at this; exact this⟩, ⟨below_set HB.out (Nat.le_refl _)⟩⟩
      case measure => simp [intOf]; omega
    · have hk3 : k = 3 := by omega
      subst hk3
      go_wp2
      go_ret
      exact ⟨_, _, rfl, HL.out, Nat.le_refl _, HB.out⟩
set_option maxHeartbeats 1600000 in
set_option maxRecDepth 100000 in
theorem keptBytes_calls (k : Nat) (g cap : Nat) (l0 : List Int) (A1 : Option Addr) (c1 : Nat) (l1 : List Int) (r : Bool) (w : World) (hL : LentTo 5 (Value.int .u8) (.int .u8 119) w g cap l0 3) (hl : l0.length ≤ 1000000000) (hr1 : (Kd.int .u8).C w A1 l1.length l1) (hc1 : l1.length ≤ c1)
    (h : hogsheadlaw0_SameBytes.f k l0 l1 = some r) :
    Calls Tryz.prog 24 #[.slice (some ⟨g, 0, none⟩) l0.length cap, .slice A1 l1.length c1] w fun e w' => e = .returned (.bool r) ∧ Drawn0 w w' := by
  obtain ⟨n, hn⟩ : ∃ n, l0.length = n := ⟨_, rfl⟩
  have hcap : cap = n + 3 := by obtain ⟨_, _, _, h1, _⟩ := hL; omega
  subst hcap
  have HN := Aside0.mk hn
  have HL := Aside0.mk hL
  have HR := Aside0.mk hr1
  have HC := Aside0.mk hc1
  have HS := Aside0.mk h
  rw [hn] at hl ⊢
  clear hn hL hr1 hc1 h
  go_enter Tryz.func24, Tryz.ntmps24
  go_wp2
  have e3 : n + 3 - n = 3 := by omega
  simp only [e3]
  clear e3
  go_loopw [6] (fun vi wr => ∃ k : Nat, k ≤ 3 ∧ vi = .int .i64 k ∧ Drawn0 w wr) (fun vi _ => 3 - (intOf vi).toNat)
  case atStart => exact ⟨0, by omega, rfl, Drawn0.refl _⟩
  case round =>
    obtain ⟨k, hk, rfl, ⟨m, rfl⟩⟩ := hrel
    by_cases hlt : k < 3
    · have hv := HL.out.mark_cell hlt
      rw [HN.out] at hv
      go_wp2
      go_roundw
      case rel => exact ⟨k + 1, by omega, by go_num, by repeat (first | exact Drawn0.refl _ | apply Drawn0.step)⟩
      case measure => simp [intOf]; omega
    · have hk3 : k = 3 := by omega
      subst hk3
      go_wp2_with fail
      have hlen := HN.out
      rw [← hlen]
      refine (hogsheadlaw0_SameBytes.calls k _ _ l0 _ _ l1 r _ (Kd.C_below (HL.out.reads (by omega)) (pw_below_drewN (Below.refl _ _) m)) (by omega) (Kd.C_below HR.out (pw_below_drewN (Below.refl _ _) m)) HC.out HS.out).mono ?_
      rintro e w2 ⟨rfl, hd⟩
      have HD := Aside0.mk hd
      clear hd hlen
      go_wp2
      go_ret
      exact ⟨rfl, by obtain ⟨m2, rfl⟩ := HD.out; exact (Drawn0.refl _).step m |>.step m2⟩
end Go.Proofs.YtdijnmcfpbceaaaGreatDoor.X

namespace Go.Proofs.YtdijnmcfpbceaaaGreatDoor.P
open Go.Proofs.YtdijnmcfpbceaaaGreatDoor.X
open Go.RowKit Go.Proofs.YtdijnmcfpbceaaaGreatDoorW.PrintWords Go.Proofs.YtdijnmcfpbceaaaGreatDoorW.PrintLast Go.Proofs.YtdijnmcfpbceaaaGreatDoorW.PrintMore
attribute [local go_sem] min2_int min_two
set_option linter.unusedVariables false
set_option linter.unusedSimpArgs false
def hogsheadlaw0_OverNodes.l0 : Nat → List (S47) → Int → Option (Unit)
 | 0, _, _ => none
 | k + 1, x0, x2 => if x2 < (x0.length : Int) then (if 0 ≤ x2 then (hogsheadlaw0_OverNodes.l0 k (x0.set (x2 : Int).toNat (⟨(⟨#[111, 118, 101, 114]⟩ : ByteArray), 0, (⟨#[]⟩ : ByteArray)⟩ : S47)) (wrap64 (x2 + 1))) else (none)) else (if x0.length < 3518437208883 then (some ()) else (none))
def hogsheadlaw0_OverNodes.f (k : Nat) (l0 : List (S47)) : Option (Unit) := hogsheadlaw0_OverNodes.l0 k l0 0
set_option maxHeartbeats 8000000 in
set_option maxRecDepth 100000 in
theorem hogsheadlaw0_OverNodes.calls (k : Nat) (P0_ : Nat → Prop) (u9000_ : Value) (l0 : List (S47)) (w0 w : World) (hB : Below w0.heap.size w0 w) (ho0 : Kd.R k47 47 w w0.heap.size P0_ u9000_ l0) (h : hogsheadlaw0_OverNodes.f k l0 = some ()) :
  Calls Tryz.prog 25 #[u9000_] w fun e w' => e = .returned (.tuple #[]) ∧ Below w0.heap.size w0 w' ∧ Kept w w' (fun k_ => P0_ k_) := by
 have hu47 := Tryz.underlying47
 have HO0 := Aside0.mk (show Kd.R k47 47 w w0.heap.size (fun k_ => (P0_ k_ ∨ w.heap.size ≤ k_)) u9000_ l0 from Kd.R_mono ho0 (fun k_ hk => (.inl hk)))
 have HK := Aside0.mk (Kept.refl w (fun k_ => P0_ k_))
 have HW0 := Aside0.mk hB.size
 have HB := Aside0.mk hB
 clear hB
 have H : (hogsheadlaw0_OverNodes.l0 k l0 0) = some () := h
 clear h
 have H' := Aside0.mk H
 clear H
 go_enter Tryz.func25, Tryz.ntmps25
 go_wp2
 go_loopg [2] k (fun kq v2 w' => ∃ (x0_1 : List (S47)) (x2_1 : Int), v2 = .int .i64 x2_1 ∧ Aside0 (hogsheadlaw0_OverNodes.l0 kq x0_1 x2_1 = some ()) ∧ Aside0 (kq ≤ k) ∧ Aside0 (Kd.R k47 47 w' w0.heap.size (fun k_ => (P0_ k_ ∨ w.heap.size ≤ k_)) u9000_ x0_1) ∧ Aside0 (Kept w w' (fun k_ => P0_ k_)) ∧ Aside0 (Below w0.heap.size w0 w'))
 case atStart => exact ⟨(l0), (0), (by first | rfl | (simp; done) | (simp [*]; done) | exact congrArg Value.bool (nil_ne _) | exact congrArg Value.bool (nil_eq _) | exact congrArg Value.bool (nil_ne' _)), H', ⟨Nat.le_refl _⟩, ⟨by (with_reducible repeat (first | apply Kd.R_alloc | apply Kd.R_drewN | apply Kd.R_drew)); exact HO0.out⟩, ⟨by repeat (first | (with_reducible first | exact HK.out | apply Kept.alloc | apply Kept.drewN | apply Kept.drew) | exact HK.out)⟩, ⟨by repeat (first | (with_reducible first | exact HB.out | apply below_alloc | apply pw_below_drewN | apply below_drew1) | exact HB.out)⟩⟩
 case round =>
  clear H'
  obtain ⟨x0_1, x2_1, rfl, HA, HK1, HO_0, HK, HB⟩ := hrel
  cases gk with
  | zero => exact absurd HA.out (by simp [hogsheadlaw0_OverNodes.l0])
  | succ k1 =>
   have H := HA.out
   clear HA
   simp only [hogsheadlaw0_OverNodes.l0] at H
   by_cases c2 : x2_1 < (x0_1.length : Int)
   ·rw [if_pos c2] at H
    have c2b0 : decide (x2_1 < (x0_1.length : Int)) = true := decide_eq_true c2
    clear c2
    by_cases c3 : 0 ≤ x2_1
    ·rw [if_pos c3] at H
     have c3b0 : decide (0 ≤ x2_1) = true := decide_eq_true c3
     clear c3
     obtain ⟨y181, hy181⟩ : ∃ y_ : List (S47), y_ = (x0_1.set (x2_1 : Int).toNat (⟨(⟨#[111, 118, 101, 114]⟩ : ByteArray), 0, (⟨#[]⟩ : ByteArray)⟩ : S47)) := ⟨_, rfl⟩
     replace H : (hogsheadlaw0_OverNodes.l0 k1 y181 (wrap64 (x2_1 + 1))) = some () := by first | (rw [hy181]; with_reducible exact H) | (have H2_ := (Option.bind_some _ _).symm.trans H; rw [hy181]; with_reducible exact H2_) | (have H2_ := (Option.bind_some _ _).symm.trans H; with_reducible exact H2_) | with_reducible exact H | (rw [hy181]; exact H) | exact H
     have Ny181 := Aside0.mk hy181
     clear hy181
     have H' := Aside0.mk H
     clear H
     obtain ⟨Ao5, co5, eo5⟩ := Kd.R_slice HO_0.out
     subst eo5
     have p4 : 0 ≤ (x2_1 : Int) := of_decide_eq_true (by first | (with_reducible assumption) | assumption)
     have q4 : (x2_1 : Int) < ((x0_1.length : Int) : Int) := of_decide_eq_true (by first | (with_reducible assumption) | assumption)
     obtain ⟨go4, co4, eo4, gb4, gl4, cl4, HG4⟩ := Kd.R_form HO_0.out (by omega)
     (first | cases eo4 | (injection eo4 with ea_ en_ ec_; (first | subst ea_ | (injection ea_ with ea_; subst ea_)); subst ec_; clear en_))
     have GB4 := Aside0.mk gb4
     have GG4 := Aside0.mk HG4
     clear gb4 gl4 HG4
     have HMgo4 := Aside0.mk (show (P0_ go4 ∨ w.heap.size ≤ go4) from (HO_0.out.1 _ rfl))
     obtain ⟨ce4, hcl4, hM4, hcc4, hfr4⟩ := Kd.R_elem HO_0.out z47 (x2_1 : Int) p4 q4
     obtain rfl := k47_openM hM4
     have hx4_0 : wr.cell? ⟨go4, (x2_1 : Int).toNat * 3, none⟩ = some (.string ((rd_T47 x0_1 x2_1).f0)) := hcc4 0 _ rfl
     have hx4_1 : wr.cell? ⟨go4, (x2_1 : Int).toNat * 3 + 1, none⟩ = some (.int .i64 ((rd_T47 x0_1 x2_1).f1)) := hcc4 1 _ rfl
     have hx4_2 : wr.cell? ⟨go4, (x2_1 : Int).toNat * 3 + 2, none⟩ = some (.string ((rd_T47 x0_1 x2_1).f2)) := hcc4 2 _ rfl
     have hf4_0 : wr.frozen? ⟨go4, (x2_1 : Int).toNat * 3, none⟩ = false := hfr4 0
     have hf4_1 : wr.frozen? ⟨go4, (x2_1 : Int).toNat * 3 + 1, none⟩ = false := hfr4 1
     have hf4_2 : wr.frozen? ⟨go4, (x2_1 : Int).toNat * 3 + 2, none⟩ = false := hfr4 2
     clear hcl4 hcc4 hfr4 hM4
     replace p4 := eq_true p4
     replace q4 := eq_true q4
     have HX6 := Aside0.mk (show Kd.R k47 47 wr w0.heap.size (fun k_ => (P0_ k_ ∨ w.heap.size ≤ k_)) (.slice (some ⟨go4, 0, none⟩) x0_1.length co5) x0_1 from (by (with_reducible repeat (first | apply Kd.R_alloc | apply Kd.R_drewN | apply Kd.R_drew)); exact HO_0.out))
     obtain ⟨ce6, hcl6, hM6, hcc6, hfr6⟩ := Kd.R_elem HX6.out z47 (x2_1 : Int) (of_decide_eq_true (by first | (with_reducible assumption) | assumption)) (by have h_ : (x2_1 : Int) < ((x0_1.length : Int) : Int) := of_decide_eq_true (by first | (with_reducible assumption) | assumption); first | exact h_ | (have e_ := (Kd.R_reads' HO_0.out).1; omega) | simpa using h_)
     obtain rfl := k47_openM hM6
     have HP6 := Kd.R_seg HX6.out (x2_1 : Int) (of_decide_eq_true (by first | (with_reducible assumption) | assumption)) (by have h_ : (x2_1 : Int) < ((x0_1.length : Int) : Int) := of_decide_eq_true (by first | (with_reducible assumption) | assumption); first | exact h_ | (have e_ := (Kd.R_reads' HO_0.out).1; omega) | simpa using h_) (seg := [.string (⟨#[111, 118, 101, 114]⟩ : ByteArray), .int .i64 0, .string (⟨#[]⟩ : ByteArray)]) (j := 0) hcl6 hcc6 (show 3 ≤ 3 from by decide) (x' := (⟨(⟨#[111, 118, 101, 114]⟩ : ByteArray), 0, (⟨#[]⟩ : ByteArray)⟩ : S47)) (k47_mkM _ _ _ (⟨(⟨#[111, 118, 101, 114]⟩ : ByteArray), 0, (⟨#[]⟩ : ByteArray)⟩ : S47) ) (fun _ hk => hk)
     have hx6_0 := hcc6 0 _ rfl
     (try simp only [show (k47).sz = 3 from rfl, Nat.mul_one, Nat.add_zero] at hx6_0)
     have hf6_0 := hfr6 0
     (try simp only [show (k47).sz = 3 from rfl, Nat.mul_one, Nat.add_zero] at hf6_0)
     have hx6_1 := hcc6 1 _ rfl
     (try simp only [show (k47).sz = 3 from rfl, Nat.mul_one, Nat.add_zero] at hx6_1)
     have hf6_1 := hfr6 1
     (try simp only [show (k47).sz = 3 from rfl, Nat.mul_one, Nat.add_zero] at hf6_1)
     have hx6_2 := hcc6 2 _ rfl
     (try simp only [show (k47).sz = 3 from rfl, Nat.mul_one, Nat.add_zero] at hx6_2)
     have hf6_2 := hfr6 2
     (try simp only [show (k47).sz = 3 from rfl, Nat.mul_one, Nat.add_zero] at hf6_2)
     clear hcl6 hcc6 hfr6 hM6
     go_wp2_with (first | ((with_reducible refine gate_store (t := 47) (p := 12) rfl ?_); refine store_event (t := 47) (p := 12) (v := ?vo_w7) (w1 := (((wr.setCell ⟨go4, (x2_1 : Int).toNat * 3, none⟩ (.string (⟨#[111, 118, 101, 114]⟩ : ByteArray))).setCell ⟨go4, (x2_1 : Int).toNat * 3 + 1, none⟩ (.int .i64 0)).setCell ⟨go4, (x2_1 : Int).toNat * 3 + 2, none⟩ (.string (⟨#[]⟩ : ByteArray)))) ?hg ?ho ?hn ?hr ?_; (case ho => rfl); (case hg => rfl); (case hn => rfl); (case hr => first | (go_simp; done) | (go_simp; rfl)); intro w7 hw; have hg : wr.grownBy w7 (some go4) := (by rw [hw]; exact HP6.2); have hp_ : Kd.R k47 47 w7 w0.heap.size (fun k_ => (P0_ k_ ∨ w.heap.size ≤ k_)) (.slice (some ⟨go4, 0, none⟩) x0_1.length co5) y181 := (by rw [hw, Ny181.out]; exact HP6.1); clear HP6; have n0_ := Aside0.mk (hp_); have n1_ := Aside0.mk ((by rw [hw]; exact below_set (below_set (below_set (HB.out) GB4.out) GB4.out) GB4.out : Below w0.heap.size w0 w7)); have n2_ := Aside0.mk (Kept.of_grown (S := (fun k_ => P0_ k_)) hg (by repeat (first | (with_reducible first | exact HK.out | apply Kept.alloc | apply Kept.drewN | apply Kept.drew) | exact HK.out)) (fun k_ e_ => (HO_0.out.1 k_ e_))); clear HO_0; clear HB; clear HK; have HO_0 := n0_; have HB := n1_; have HK := n2_; clear n0_ n1_ n2_; clear hg hw hp_))
     go_roundg k1
     case measure => have := HK1.out; omega
     case rel => exact ⟨(y181), (wrap64 (x2_1 + 1)), (by first | rfl | (simp; done) | (simp [*]; done) | exact congrArg Value.bool (nil_ne _) | exact congrArg Value.bool (nil_eq _) | exact congrArg Value.bool (nil_ne' _)), H', ⟨by have := HK1.out; omega⟩, ⟨by (with_reducible repeat (first | apply Kd.R_alloc | apply Kd.R_drewN | apply Kd.R_drew)); exact HO_0.out⟩, ⟨by repeat (first | (with_reducible first | exact HK.out | apply Kept.alloc | apply Kept.drewN | apply Kept.drew) | exact HK.out)⟩, ⟨by repeat (first | (with_reducible first | exact HB.out | apply below_alloc | apply pw_below_drewN | apply below_drew1) | exact HB.out)⟩⟩
    ·rw [if_neg c3] at H
     exact absurd H (by simp)
   ·rw [if_neg c2] at H
    have c2b0 : decide (x2_1 < (x0_1.length : Int)) = false := decide_eq_false c2
    clear c2
    by_cases c8 : x0_1.length < 3518437208883
    ·rw [if_pos c8] at H
     have LMc8 := Aside0.mk c8
     clear c8
     obtain ⟨y182, hy182⟩ : ∃ y_ : List (S47), y_ = (x0_1 ++ [(⟨(⟨#[111, 118, 101, 114]⟩ : ByteArray), 0, (⟨#[]⟩ : ByteArray)⟩ : S47)]) := ⟨_, rfl⟩
     replace H : (some ()) = some () := by first | (rw [hy182]; with_reducible exact H) | (have H2_ := (Option.bind_some _ _).symm.trans H; rw [hy182]; with_reducible exact H2_) | (have H2_ := (Option.bind_some _ _).symm.trans H; with_reducible exact H2_) | with_reducible exact H | (rw [hy182]; exact H) | exact H
     have Ny182 := Aside0.mk hy182
     clear hy182
     obtain ⟨Ao9, co9, eo9⟩ := Kd.R_slice HO_0.out
     subst eo9
     go_wp2_with (first | ((with_reducible refine gate_builtin (b := .append) (xs := #[.tmp 13, .tmp 15]) rfl ?_); at_builtin; refine Kd.R_append k47 (w0 := w0) w0.heap.size rfl (.tmp 13) (.tmp 15) 22 47 (.agg #[(.string ⟨#[]⟩), (.int .i64 0), (.string ⟨#[]⟩)]) 40 rfl Tryz.underlying22 info47 rfl (by decide) (by omega) (.slice Ao9 x0_1.length co9) x0_1 (⟨(⟨#[111, 118, 101, 114]⟩ : ByteArray), 0, (⟨#[]⟩ : ByteArray)⟩ : S47) [.string (⟨#[111, 118, 101, 114]⟩ : ByteArray), .int .i64 0, .string (⟨#[]⟩ : ByteArray)] (fun k_ => (P0_ k_ ∨ w.heap.size ≤ k_)) (fun _ => False) rfl rfl ?aP (fun _ hk => hk.elim) ?aF ?aO ?aB ?aS ?aL ?_; (case aP => exact k47_mkM _ _ _ (⟨(⟨#[111, 118, 101, 114]⟩ : ByteArray), 0, (⟨#[]⟩ : ByteArray)⟩ : S47)); (case aB => exact (by repeat (first | (with_reducible first | exact HB.out | apply below_alloc | apply pw_below_drewN | apply below_drew1) | exact HB.out))); (case aF => exact (fun k_ hk => (.inr (Nat.le_trans (by first | exact HK.out.1 | exact (show Kept w _ (fun k_ => P0_ k_) from by repeat (first | (with_reducible first | exact HK.out | apply Kept.alloc | apply Kept.drewN | apply Kept.drew) | exact HK.out)).1) hk)))); (case aO => exact (by (with_reducible repeat (first | apply Kd.R_alloc | apply Kd.R_drewN | apply Kd.R_drew)); exact HO_0.out)); (case aS => exact (below_size (by repeat (first | (with_reducible first | exact HB.out | apply below_alloc | apply pw_below_drewN | apply below_drew1) | exact HB.out)))); (case aL => have := LMc8.out; omega); intro v183 w10 ho hb hg hat; rw [← Ny182.out] at ho; have n0_ := Aside0.mk (hb); have n1_ := Aside0.mk (Kept.of_grown (S := (fun k_ => P0_ k_)) hg (by repeat (first | (with_reducible first | exact HK.out | apply Kept.alloc | apply Kept.drewN | apply Kept.drew) | exact HK.out)) (fun k_ e_ => (HO_0.out.1 k_ e_))); have n2_ := Aside0.mk (ho); clear HB; clear HK; clear HO_0; have HB := n0_; have HK := n1_; have HO184 := n2_; clear n0_ n1_ n2_; clear ho hb hg hat))
     first | go_end0 | ((try simp only [Exit.inBlock, Exit.then]); refine bodyPost_ret (results_none rfl _ _ _) rfl ?_)
     exact ⟨by first | rfl | (simp [errW_none, errW_some] <;> rfl) | (simp [*, errW_none, errW_some] <;> rfl), by repeat (first | (with_reducible first | exact HB.out | apply below_alloc | apply pw_below_drewN | apply below_drew1) | exact HB.out), by repeat (first | (with_reducible first | exact HK.out | apply Kept.alloc | apply Kept.drewN | apply Kept.drew) | exact HK.out)⟩
    ·rw [if_neg c8] at H
     exact absurd H (by simp)
end Go.Proofs.YtdijnmcfpbceaaaGreatDoor.P

namespace Go.Proofs.YtdijnmcfpbceaaaGreatDoor.X
open Go.RowKit Go.Proofs.YtdijnmcfpbceaaaGreatDoorW.PrintWords Go.Proofs.YtdijnmcfpbceaaaGreatDoorW.PrintLast Go.Proofs.YtdijnmcfpbceaaaGreatDoorW.PrintMore Go.Proofs.YtdijnmcfpbceaaaGreatDoor.P
set_option linter.unusedVariables false
set_option linter.unusedSimpArgs false
theorem overNodes_l0 : ∀ (d i : Nat) (a : List S47), a.length < 3518437208883 → a.length - i = d → i ≤ a.length → Ev (fun k => hogsheadlaw0_OverNodes.l0 k a (i : Int)) () := by
  intro d
  induction d with
  | zero =>
    intro i a hn hd hi
    refine ⟨1, fun k hk => ?_⟩
    obtain ⟨k, rfl⟩ : ∃ m, k = m + 1 := ⟨k - 1, by omega⟩
    simp only [hogsheadlaw0_OverNodes.l0]
    rw [if_neg (by omega), if_pos hn]
  | succ d ih =>
    intro i a hn hd hi
    obtain ⟨K, hK⟩ := ih (i + 1) (a.set i ⟨⟨#[111, 118, 101, 114]⟩, 0, ⟨#[]⟩⟩) (by rw [List.length_set]; exact hn) (by rw [List.length_set]; omega) (by rw [List.length_set]; omega)
    refine ⟨K + 1, fun k hk => ?_⟩
    obtain ⟨k, rfl⟩ : ∃ m, k = m + 1 := ⟨k - 1, by omega⟩
    simp only [hogsheadlaw0_OverNodes.l0]
    rw [if_pos (by omega), if_pos (by omega), wrap_i i a.length (by omega) (by omega), Int.toNat_natCast]
    exact hK k (by omega)
theorem rowCs_repsM (w : World) (base : Nat) (ok : Nat → Prop) (t : List S47) : Reps (k47.M w base ok) 3 t (rowCs t) := by
  induction t with
  | nil => exact Reps.none _ _
  | cons n t ih => exact Reps.front (k47_mkM w base ok n) rfl ih rfl
theorem overNodes_calls (w0 : World) (A : Option Addr) (c : Nat) (t : List S47) (w : World) (hB : Below w0.heap.size w0 w) (ho : w.ownsRow w0.heap.size 47 3 (.slice A t.length c) t.length (rowCs t)) (hl : t.length ≤ 100000) :
    Calls Tryz.prog 25 #[.slice A t.length c] w fun e w' => e = .returned (.tuple #[]) ∧ Below w0.heap.size w0 w' ∧ Kept w w' (fun k => (Value.slice A t.length c).ownBlock = some k) := by
  obtain ⟨K, hK⟩ := overNodes_l0 t.length 0 t (by omega) (by omega) (by omega)
  exact hogsheadlaw0_OverNodes.calls K (fun k => (Value.slice A t.length c).ownBlock = some k) (.slice A t.length c) t w0 w hB ⟨fun k hk => hk, rowCs t, ho, rowCs_repsM _ _ _ t⟩ (hK K (Nat.le_refl _))
theorem lent_keep {α : Type} {e : Nat} {enc : α → Value} {mark : Value} {W W1 : World} {g cap m : Nat} {xs : List α} (h : LentTo e enc mark W g cap xs m) (hk : W1.heap[g]? = W.heap[g]?) : LentTo e enc mark W1 g cap xs m := by
  obtain ⟨cells, hg, h1⟩ := h
  exact ⟨cells, hk.trans hg, h1⟩
theorem lent_lt {α : Type} {e : Nat} {enc : α → Value} {mark : Value} {W : World} {g cap m : Nat} {xs : List α} (h : LentTo e enc mark W g cap xs m) : g < W.heap.size := by
  obtain ⟨cells, hg, h1⟩ := h
  exact (Array.getElem?_eq_some_iff.1 hg).1
theorem kept_calls (g cap : Nat) (l0 : List Int) (A1 : Option Addr) (c1 : Nat) (w : World) (hL : LentTo 5 (Value.int .u8) (.int .u8 119) w g cap l0 3) (hl : l0.length ≤ 1000000000) (hr1 : (Kd.int .u8).C w A1 l0.length l0) (hc1 : l0.length ≤ c1) :
    Calls Tryz.prog 24 #[.slice (some ⟨g, 0, none⟩) l0.length cap, .slice A1 l0.length c1] w fun e w' => e = .returned (.bool true) ∧ Below w.heap.size w w' := by
  obtain ⟨K, hK⟩ := sameBytes_eq l0 l0 hr1.2.1
  have h1 : hogsheadlaw0_SameBytes.f K l0 l0 = some true := by
    have := hK K (Nat.le_refl _)
    simpa using this
  exact (keptBytes_calls K g cap l0 A1 c1 l0 true w hL hl hr1 hc1 h1).mono fun e w' ⟨h1, h2⟩ => ⟨h1, h2.below⟩
set_option maxHeartbeats 8000000 in
set_option maxRecDepth 100000 in
theorem untarReads_calls (A : Option Addr) (c : Nat) (bs : List Int) (w : World) (hT : Aside0 (Tabs w)) (hE : Aside0 (ErrV w)) (hC : (Kd.int .u8).C w A bs.length bs) (hc : bs.length ≤ c) (hby : Bytes bs) :
    Calls Tryz.prog 4 #[.slice A bs.length c] w fun e w' => e = .returned (.bool true) ∧ Below w.heap.size w w' := by
  have X := Aside0.mk hC
  have HY := Aside0.mk hby
  have hbm : bs.length ≤ 9223372036854775807 := hC.2.1
  clear hC hby
  go_enter Tryz.func4, Tryz.ntmps4
  by_cases hg : 40000 < bs.length
  · have hgi : decide ((40000 : Int) < (bs.length : Int)) = true := decide_eq_true (by omega)
    have hgn : decide (40000 < bs.length) = true := decide_eq_true (by omega)
    clear hg
    go_wp2_with fail
    refine (awake14_calls w hT hE).mono ?_
    rintro e w2 ⟨rfl, hb⟩
    have HB := Aside0.mk hb
    clear hb
    go_wp2_with fail
    go_ret
    exact ⟨rfl, HB.out⟩
  · have hgi : decide ((40000 : Int) < (bs.length : Int)) = false := decide_eq_false (by omega)
    have hgn : decide (40000 < bs.length) = false := decide_eq_false (by omega)
    have hl : bs.length ≤ 40000 := by omega
    clear hg
    go_wp2_with fail
    refine (lendBytes_calls A c bs w X.out (by omega)).mono ?_
    rintro e w1 ⟨g, cap, rfl, hL, hgb, hw1⟩
    have HB1 := Aside0.mk hw1
    have HL1 := Aside0.mk hL
    have hcap := hL.room
    clear hw1 hL hgb
    go_wp2_with fail
    refine (uread_calls (some ⟨g, 0, none⟩) cap bs w1 ⟨Tabs.below hT.out HB1.out⟩ ⟨hE.out.below HB1.out⟩ (LentTo.reads HL1.out (by omega)) hcap (by omega) HY.out).mono ?_
    rintro e w2 ⟨v2, rfl, ho2, hw2⟩
    obtain ⟨A2, c2, rfl, hc2, _⟩ := row_reads ho2
    have hgl := lent_lt HL1.out
    have HB2 := Aside0.mk (below_step HB1.out hw2)
    have HL2 := Aside0.mk (HL1.out.below hw2)
    have HO2 := Aside0.mk ho2
    have HNg := Aside0.mk (show (Value.slice A2 (untR bs).1.length c2).ownBlock ≠ some g from fun h => by
      have := own_base ho2 g h
      omega)
    have hs12 := HB1.out.size
    clear ho2 hw2 HB1 HL1
    go_wp2_with fail
    refine (rread_calls A c bs w2 (Kd.C_below X.out HB2.out) hc hl HY.out).mono ?_
    rintro e w3 ⟨v3, rfl, ho3, hw3⟩
    rw [lenR_eq bs hl] at ho3 ⊢
    obtain ⟨A3, c3, rfl, hc3, hC3⟩ := row_reads ho3
    have HB3 := Aside0.mk (below_step HB2.out hw3)
    have HL3 := Aside0.mk (HL2.out.below hw3)
    have HO3 := Aside0.mk (ownG HO2.out hw3)
    have HC3 := Aside0.mk hC3
    clear ho3 hw3 hC3 HB2 HL2 HO2
    go_wp2_with fail
    refine (names_calls (some ⟨g, 0, none⟩) cap bs w3 ⟨Tabs.below hT.out HB3.out⟩ ⟨hE.out.below HB3.out⟩ (LentTo.reads HL3.out (by omega)) hcap (by omega) HY.out).mono ?_
    rintro e w4 ⟨v4, rfl, ho4, hw4⟩
    have hts : (untR bs).1.length ≤ 400 := by
      rcases unt_cases bs with e | ⟨t, e, ht, _⟩
      · rw [e]
        exact Nat.zero_le _
      · rw [e]
        exact (treeB_good ht).2
    generalize (untR bs).1 = T at *
    generalize (untR bs).2 = code at *
    have HB4 := Aside0.mk (below_step HB3.out hw4)
    have HL4 := Aside0.mk (HL3.out.below hw4)
    have HO4 := Aside0.mk (ownG HO3.out hw4)
    have HC4 := Aside0.mk (Kd.C_below HC3.out hw4)
    obtain ⟨A4, c4, e4, hC4⟩ : ∃ A c, v4 = .slice A T.length c ∧ Kd.C Kd.string w4 A T.length (T.map fun n => n.f0) := by
      obtain ⟨A, c, e, h⟩ := own_reads_of (enc := Value.string) (d := ByteArray.empty) ho4
      exact ⟨A, c, e, Kd.C_of_reads (d := ByteArray.empty) (h1 := fun _ => rfl) h⟩
    subst e4
    have HN4 := Aside0.mk hC4
    clear ho4 hw4 hC4 HB3 HL3 HO3 HC3
    have hcc : (code == code) = true := beq_self_eq_true code
    have hcn : (code != code) = false := by simp
    go_wp2_with fail
    refine (sameNodes_calls A2 c2 T A3 c3 T w4 (by
      obtain ⟨A', c', e, _, h⟩ := row_reads HO4.out
      cases e
      exact h) hc2 HC4.out hc3).mono ?_
    rintro e w5 ⟨r, rfl, hr, hw5⟩
    obtain rfl : r = true := hr.2 rfl
    have HB5 := Aside0.mk (below_step HB4.out hw5)
    have HL5 := Aside0.mk (HL4.out.below hw5)
    have HO5 := Aside0.mk (ownG HO4.out hw5)
    have HC5 := Aside0.mk (Kd.C_below HC4.out hw5)
    have HN5 := Aside0.mk (Kd.C_below HN4.out hw5)
    clear hr hw5 HB4 HL4 HO4 HC4 HN4
    go_wp2_with fail
    refine (hogsheadlaw0_Num.calls code code w5 rfl).mono ?_
    rintro e w6 ⟨rfl, hw6⟩
    have HB6 := Aside0.mk (below_step HB5.out hw6.below)
    have HL6 := Aside0.mk (HL5.out.below hw6.below)
    have HO6 := Aside0.mk (ownG HO5.out hw6.below)
    have HC6 := Aside0.mk (Kd.C_below HC5.out hw6.below)
    have HN6 := Aside0.mk (Kd.C_below HN5.out hw6.below)
    clear hw6 HB5 HL5 HO5 HC5 HN5
    go_wp2_with fail
    refine (hogsheadlaw0_Num.calls code code w6 rfl).mono ?_
    rintro e w7 ⟨rfl, hw7⟩
    have HB7 := Aside0.mk (below_step HB6.out hw7.below)
    have HL7 := Aside0.mk (HL6.out.below hw7.below)
    have HO7 := Aside0.mk (ownG HO6.out hw7.below)
    have HC7 := Aside0.mk (Kd.C_below HC6.out hw7.below)
    have HN7 := Aside0.mk (Kd.C_below HN6.out hw7.below)
    clear hw7 HB6 HL6 HO6 HC6 HN6
    go_wp2_with fail
    refine (kept_calls g cap bs A c w7 HL7.out (by omega) (Kd.C_below X.out HB7.out) hc).mono ?_
    rintro e w8 ⟨rfl, hw8⟩
    have HB8 := Aside0.mk (below_step HB7.out hw8)
    have HL8 := Aside0.mk (HL7.out.below hw8)
    have HO8 := Aside0.mk (ownG HO7.out hw8)
    have HC8 := Aside0.mk (Kd.C_below HC7.out hw8)
    have HN8 := Aside0.mk (Kd.C_below HN7.out hw8)
    clear hw8 HB7 HL7 HO7 HC7 HN7
    go_wp2_with fail
    go_loopw [10] (fun v wr => ∃ i : Nat, v = .int .i64 i ∧ i ≤ T.length ∧ Aside0 (Below w.heap.size w wr ∧ Below w8.heap.size w8 wr)) (fun v _ => T.length - (intOf v).toNat)
    case atStart => exact ⟨0, rfl, by omega, ⟨HB8.out, Below.refl _ _⟩⟩
    case round =>
      obtain ⟨i, rfl, hi, HW⟩ := hrel
      by_cases hil : i < T.length
      · have hic : decide ((i : Int) < (T.length : Int)) = true := decide_eq_true (by omega)
        have hi0 : 0 ≤ (i : Int) := by omega
        obtain ⟨a4, e4, y0⟩ := Kd.at_string (Kd.C_below HN8.out HW.out.2) (i : Int) (by omega) (by omega)
        obtain ⟨a3, e3, z0, z1, z2⟩ := at_T47 (Kd.C_below HC8.out HW.out.2) (i : Int) (by omega) (by omega)
        subst e4
        subst e3
        simp only [Int.toNat_natCast] at y0 z0 z1 z2
        have e1 : rdOf ByteArray.empty (T.map fun n => n.f0) (i : Int) = T[i].f0 := by simp [rdOf, List.getD_eq_getElem?_getD, hil]
        rw [e1] at y0
        rw [rdN_get T i hil] at z0 z1 z2
        clear e1 z1 z2
        generalize T[i].f0 = s at *
        have hss : (s.toList != s.toList) = false := by simp
        have hse : (s.toList == s.toList) = true := beq_self_eq_true _
        go_wp2_with fail
        go_quiet (fail)
        go_wp2_with fail
        exact ⟨⟨i + 1, rfl, by omega, ⟨pw_below_drewN HW.out.1 _, pw_below_drewN HW.out.2 _⟩⟩, by simp only [intOf]; omega⟩
      · have hic : decide ((i : Int) < (T.length : Int)) = false := decide_eq_false (by omega)
        have hicn : decide (i < T.length) = false := decide_eq_false (by omega)
        have HBw := Aside0.mk HW.out.1
        have HOw := Aside0.mk (own_weaken (ownG HO8.out HW.out.2) hs12)
        have HLw := Aside0.mk (HL8.out.below HW.out.2)
        clear hi hil HW
        go_wp2_with fail
        refine (overNodes_calls w A2 c2 T wr HBw.out HOw.out (by omega)).mono ?_
        rintro e w10 ⟨rfl, hw10, hkp⟩
        have HB10 := Aside0.mk hw10
        have HL10 := Aside0.mk (lent_keep HLw.out (hkp.2 g (lent_lt HLw.out) (fun h => HNg.out h)))
        clear hw10 hkp HBw HOw HLw
        go_wp2_with fail
        refine (kept_calls g cap bs A c w10 HL10.out (by omega) (Kd.C_below X.out HB10.out) hc).mono ?_
        rintro e w11 ⟨rfl, hw11⟩
        have HB11 := Aside0.mk (below_step HB10.out hw11)
        clear hw11 HB10 HL10
        go_wp2_with fail
        refine (awake14_calls w11 ⟨Tabs.below hT.out HB11.out⟩ ⟨hE.out.below HB11.out⟩).mono ?_
        rintro e w12 ⟨rfl, hw12⟩
        have HB12 := Aside0.mk (below_step HB11.out hw12)
        clear hw12 HB11
        go_wp2_with fail
        go_ret
        exact ⟨rfl, HB12.out⟩
end Go.Proofs.YtdijnmcfpbceaaaGreatDoor.X
