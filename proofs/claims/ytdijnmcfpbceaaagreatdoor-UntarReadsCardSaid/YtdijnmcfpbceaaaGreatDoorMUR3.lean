/- Part 3 of what is behind the row RowUntarReads: XCE, XCF, XCK, Pf91, Pf92, Pf73, Pf54, Pf41, XPQ, XCN, XJA, XUA, XUC, XUD, XUE, XRU, XUB, XSI, XSJ. -/
import Derived.Test.YtdijnmcfpbceaaaGreatDoorMUR2
import Derived.Lib.AppendZerosOnto
import Derived.Test.YtdijnmcfpbceaaaGreatDoorProg
import Derived.Below
import Derived.Deep.Draws
import Derived.Deep.AppendLies
import Derived.Maps.AppendAt
import Derived.OwnWalk
import Derived.Laws.BytesArg
import Derived.Laws.MakeOwn
import Derived.Laws.OwnMore
import Derived.Deep.OwnRows
import Derived.Tactics
import Derived.Lib.ConvBytes
import Derived.Laws.Slices
import Derived.WalkKit
import Derived.KernelRfl
import Derived.RowKit3
import Derived.Deep.LoopGhost
import Derived.Deep.QuietTactic
import Derived.BigQuiet
import Derived.WideLaws
import Derived.Deep.DeepCutAuto
import Derived.Deep.CutBlock
import Derived.Deep.RegionHeld3
import Derived.Laws.Rows
import Derived.Lib.AppendStr
import Derived.ArgAppend
import Derived.Laws.IdiomCopy
import Derived.OrdersHeld
import Derived.Laws.BitsLemmas
import Derived.RowKit
import Derived.Laws.Cover1
import Derived.Laws.StructEq
import Derived.Lib.ItoaNum
import Derived.Lib.ItoaMem
import Derived.Outline
import Derived.Lib.IndexMore
import Derived.Lib.Bytealg
import Derived.Laws.BitsAllLaws
import Derived.Lib.Repeat
import Derived.WalkLawsBesides
import Derived.WalkSpells
import Derived.LoopTactic
import Derived.Laws.Bits64b
import Derived.Lib.Hide
import Derived.Laws.NewBlocks
import Derived.Lib.AppendIntMem
import Derived.Shelf.Strings.Builder1
import Derived.Shelf.Strings.Builder2
import Derived.Shelf.Small.Utf8
import Derived.Shelf.Small.Strs
import Derived.Shelf.Strings.BuilderF
import Derived.Shelf.Strings.BuilderK
import Derived.Shelf.Strconv.Atoi
import Derived.Shelf.Strconv.Itoa0
import Derived.Shelf.Strconv.Itoa1
import Derived.Shelf.LaysM
import Derived.Shelf.Strconv.Itoa2
import Derived.Shelf.Strconv.Itoa3
import Derived.Shelf.Strconv.Itoa4
import Derived.Shelf.Strconv.AtoiErrFast
import Derived.Shelf.Strconv.ParseIntEmpty
import Derived.Shelf.Strconv.AtoiFail
import Derived.Shelf.Strconv.Clone
import Derived.Shelf.Strconv.SyntaxError
import Derived.Shelf.LaysC
import Derived.Shelf.Strconv.ToError
import Derived.Shelf.Strconv.Lower
import Derived.Shelf.Strconv.ParseUint10
import Derived.Shelf.Strconv.ParseUint10Empty
import Derived.Shelf.Strconv.ParseUint10Any
import Derived.Shelf.Strconv.ParseInt10
import Derived.Shelf.Strconv.AtoiLong
import Derived.Shelf.Strconv.AtoiInnerAll
import Derived.Shelf.Strconv.RangeError
import Derived.Shelf.Strconv.ToErrorRange
import Derived.Shelf.Strconv.AtoiAll
import Derived.Shelf.Strings.Search1
import Derived.Shelf.Strings.Search2
import Derived.Shelf.Strings.Search3
import Derived.Shelf.Strings.Cut
import Derived.Shelf.Strings.Count
import Derived.Shelf.Strings.Shaped
import Derived.Shelf.Strings.Prefix
import Derived.Shelf.Strings.Split
import Derived.Shelf.Bits.Mul64
import Derived.Shelf.Strings.Repeat
import Derived.Shelf.Unicode.DecodeSlow
import Derived.Shelf.Bytes.Small
import Derived.Lib.BufferWrite
import Derived.Laws.CopyOwn
import Derived.Maps.OwnOps
import Derived.Maps.Views
import Derived.StringKeys
import Derived.Lib.SplitLaws
import Derived.Lib.IndexBytes
import Derived.Lib.IndexLaws
import Derived.Lib.LastIndexByte
import Derived.Lib.AtoiTie
import Derived.Lib.Strings
import Derived.Test.YtdijnmcfpbceaaaGreatDoorRows
import Derived.ProofKit
import Derived.OpenShut
import Derived.ShutString
import Derived.SizedLaws
import Derived.Deep.DeepHandedRow
import Derived.Lib.LaidTab
import Derived.LaidMore
import Derived.Lay
import Derived.Stop.Joined
import Derived.ChangeSlices
namespace Go.Proofs.YtdijnmcfpbceaaaGreatDoor.X
open Go.RowKit Go.Proofs.YtdijnmcfpbceaaaGreatDoorW.PrintWords Go.Proofs.YtdijnmcfpbceaaaGreatDoorW.PrintLast Go.Proofs.YtdijnmcfpbceaaaGreatDoorW.PrintMore Go.Proofs.YtdijnmcfpbceaaaGreatDoor.P
set_option linter.unusedVariables false
set_option linter.unusedSimpArgs false
theorem extraN_size (n : S47) (h0 : n.f0.size ≤ 1000) (h2 : n.f2.size ≤ 1000) : (extraN n).size ≤ 6000 := by
  have hr : ∀ a b : ByteArray, a.size ≤ 10 → b.size ≤ 1000 → (recT a b).size ≤ 3000 := fun a b ha hb => by
    rw [recT_eq, ByteArray.size_append, decT_size, restT_size]
    have h1 := lenD_le 5 (recM (a.size + b.size + 3)) (by
      have h2 := (recM_gt (a.size + b.size + 3) (by omega)).2
      have : (10 : Nat) ^ (5 + 1) = 1000000 := by decide
      omega)
    omega
  have hn : (nameN n).size ≤ 1000 := by
    unfold nameN
    split
    · exact (by decide : (⟨#[46]⟩ : ByteArray).size ≤ 1000)
    · exact h0
  have e0 : (⟨#[]⟩ : ByteArray).size = 0 := rfl
  unfold extraN
  rw [ByteArray.size_append]
  have a := hr ⟨#[112, 97, 116, 104]⟩ (nameN n) (by decide) hn
  have b := hr ⟨#[108, 105, 110, 107, 112, 97, 116, 104]⟩ n.f2 (by decide) h2
  split <;> split <;> omega
theorem entryB_len (e : EntT) : (entryB e).length ≤ 512 + e.data.size + 512 := by
  have := layR_length e.name e.kind (e.data.size : Int) e.link
  unfold entryB padN
  rw [List.length_append, List.length_append, List.length_replicate, bytesOf_length]
  omega
theorem WrAt.below {w w1 : World} {base gw : Nat} {v : Value} {xs : List Int} {e : Int} (h : WrAt w base gw v xs e) (hb : Below w.heap.size w w1) : WrAt w1 base gw v xs e := ⟨blk_below h.cell hb, ownG h.row hb⟩
theorem below_wn {w1 w2 w3 : World} {base : Nat} (h : Below w1.heap.size w1 w2) (g : Below base w2 w3) (hb : base ≤ w1.heap.size) : Below base w1 w3 :=
  ⟨g.os.trans h.os, g.tape.trans h.tape, g.output.trans h.output, Nat.le_trans h.size g.size, fun k hk => (g.block k hk).trans (h.block k (by omega))⟩
theorem below_base {w0 w1 w2 : World} (h : Below w0.heap.size w0 w1) (g : Below w0.heap.size w1 w2) : Below w0.heap.size w0 w2 :=
  ⟨g.os.trans h.os, g.tape.trans h.tape, g.output.trans h.output, Nat.le_trans h.size g.size, fun k hk => (g.block k hk).trans (h.block k hk)⟩
set_option maxHeartbeats 4000000 in
set_option maxRecDepth 100000 in
theorem node_calls (w0 : World) (gw : Nat) (v : Value) (xs : List Int) (c : Int) (n : S47) (w : World) (hT : Aside0 (Tabs w0)) (hB0 : Below w0.heap.size w0 w) (h : WrAt w w0.heap.size gw v xs c) (hl : xs.length ≤ 900000000) (h0 : n.f0.size ≤ 1000) (h2 : n.f2.size ≤ 1000) (hc0 : 0 ≤ c) (hc : c ≤ 900000) (hbase : w0.heap.size ≤ gw) :
    Calls Tryz.prog 44 #[.pointer (some ⟨gw, 0, none⟩), .agg #[.string n.f0, .int .i64 n.f1, .string n.f2]] w fun en w' => en = .returned (.tuple #[]) ∧
      ∃ v', WrAt w' w0.heap.size gw v' (xs ++ (entsN n).flatMap entryB) (c + ((entsN n).length : Nat)) ∧ Below w0.heap.size w0 w' ∧ KeepU gw w w' := by
  have H := Aside0.mk h
  have HB0 := Aside0.mk hB0
  have hgn : gw ≠ w.heap.size := by
    have := blk_lt h.cell
    omega
  have HE := Aside0.mk (extra_eq n h0 h2)
  have HN := Aside0.mk (name_eq n)
  have HC1 := Aside0.mk (cut_eq (nameN n))
  have HC2 := Aside0.mk (cut_eq n.f2)
  have hes := extraN_size n h0 h2
  clear h hB0
  go_enter Tryz.func44, Tryz.ntmps44
  go_wp2_with fail
  refine (tar_extra.calls n.f0 n.f1 n.f2 (extraN n) _ ⟨Tabs.below hT.out (below_alloc HB0.out _)⟩ HE.out).mono ?_
  rintro e Wn ⟨rfl, hb1⟩
  have HBw := Aside0.mk (below_step (below_alloc (Below.refl w.heap.size w) (.cells #[.string n.f0, .int .i64 n.f1, .string n.f2] 47)) hb1)
  have HB := Aside0.mk (below_step HB0.out HBw.out)
  have HG := Aside0.mk (blk_below (blk_new w (.cells #[.string n.f0, .int .i64 n.f1, .string n.f2] 47)) hb1)
  have HW := Aside0.mk (H.out.below HBw.out)
  have HKn := Aside0.mk (KeepU.below (gw := gw) HBw.out)
  generalize w.heap.size = gn at HG hgn
  clear hb1 H HE HBw
  obtain ⟨b0, hb0⟩ : ∃ b, ((extraN n).toList != []) = b := ⟨_, rfl⟩
  obtain ⟨b4, hb4⟩ : ∃ b, (n.f1 == 4) = b := ⟨_, rfl⟩
  have hb4d : decide (n.f1 = 4) = b4 := by rw [← hb4]; rfl
  have HX0 := Aside0.mk hb0
  generalize hex : extraN n = ex at *
  have HEX := Aside0.mk hex
  clear hex
  have hb0a : (ex.toList == []) = !b0 := by rw [← hb0]; simp [bne]
  have z1 := (show Wn.cell? ⟨gn, 1, none⟩ = some (.int .i64 n.f1) from (blk_cell HG.out 1).trans rfl)
  cases b0 with
  | false =>
    have HX := Aside0.mk (show (if ex.size = 0 then ([] : List EntT) else [⟨⟨#[112, 97, 120]⟩, 5, ⟨#[]⟩, ex⟩]) = [] from if_pos ((toList_nil _).1 (bne_eq_false_iff_eq.1 HX0.out)))
    cases b4 with
    | true =>
      go_wp2_with fail
      refine start_ (n := 10) (S := fun w' => Below Wn.heap.size Wn w') (ds := [9]) (bmG 10 0) (by kernel_rfl) rfl (by kernel_rfl) (below_drew1 (Below.refl Wn.heap.size Wn)) (fun hS => ?_)
      generalize Wn.drew = wd at hS ⊢
      refine pure_ (i := 0) (N := some 15) (v := ?_) (a' := ?_) (bmG 10 1) rfl rfl (by kernel_rfl) (fun _ _ _ h => h) (Or.inl ⟨by rfl, ?_⟩) ?_ ?_
      rotate_left
      · intro w'
        go_simp
        with_reducible rfl
      rotate_left
      · simp only [Act.put, List.setIfInBounds_toArray, List.set_cons_zero, List.set_cons_succ, i64_w, i32_w]
        rfl
      refine take_ (i := 1) (N := some 16) (v := ?_) (a' := ?_) (bmG 10 3) rfl rfl (by kernel_rfl) (fun _ _ _ h => h) (Or.inl ⟨by rfl, ?_⟩) hS ?_ ?_
      rotate_left
      · intro w' hS
        have s0 := (show w'.cell? ⟨gn, 0, none⟩ = some (.string n.f0) from (blk_cell (blk_below HG.out hS) 0).trans rfl)
        have s1 := (show w'.cell? ⟨gn, 1, none⟩ = some (.int .i64 n.f1) from (blk_cell (blk_below HG.out hS) 1).trans rfl)
        have s2 := (show w'.cell? ⟨gn, 2, none⟩ = some (.string n.f2) from (blk_cell (blk_below HG.out hS) 2).trans rfl)
        go_simp
        with_reducible rfl
      rotate_left
      · simp only [Act.put, List.setIfInBounds_toArray, List.set_cons_zero, List.set_cons_succ, i64_w, i32_w]
        rfl
      refine pure_ (i := 4) (N := some 19) (v := ?_) (a' := ?_) (bmG 10 19) rfl rfl (by kernel_rfl) (fun _ _ _ h => h) (Or.inl ⟨by rfl, ?_⟩) ?_ ?_
      rotate_left
      · intro w'
        go_simp
        with_reducible rfl
      rotate_left
      · simp only [Act.put, List.setIfInBounds_toArray, List.set_cons_zero, List.set_cons_succ, i64_w, i32_w]
        rfl
      refine take_ (i := 5) (N := some 20) (v := ?_) (a' := ?_) (bmG 10 51) rfl rfl (by kernel_rfl) (fun _ _ _ h => h) (Or.inl ⟨by rfl, ?_⟩) hS ?_ ?_
      rotate_left
      · intro w' hS
        have s0 := (show w'.cell? ⟨gn, 0, none⟩ = some (.string n.f0) from (blk_cell (blk_below HG.out hS) 0).trans rfl)
        have s1 := (show w'.cell? ⟨gn, 1, none⟩ = some (.int .i64 n.f1) from (blk_cell (blk_below HG.out hS) 1).trans rfl)
        have s2 := (show w'.cell? ⟨gn, 2, none⟩ = some (.string n.f2) from (blk_cell (blk_below HG.out hS) 2).trans rfl)
        go_simp
        with_reducible rfl
      rotate_left
      · simp only [Act.put, List.setIfInBounds_toArray, List.set_cons_zero, List.set_cons_succ, i64_w, i32_w]
        rfl
      refine pure_ (i := 6) (N := some 21) (v := ?_) (a' := ?_) (bmG 10 115) rfl rfl (by kernel_rfl) (fun _ _ _ h => h) (Or.inl ⟨by rfl, ?_⟩) ?_ ?_
      rotate_left
      · intro w'
        go_simp
        with_reducible rfl
      rotate_left
      · simp only [Act.put, List.setIfInBounds_toArray, List.set_cons_zero, List.set_cons_succ, i64_w, i32_w]
        rfl
      refine take_ (i := 7) (N := some 22) (v := ?_) (a' := ?_) (bmG 10 243) rfl rfl (by kernel_rfl) (fun _ _ _ h => h) (Or.inl ⟨by rfl, ?_⟩) hS ?_ ?_
      rotate_left
      · intro w' hS
        have s0 := (show w'.cell? ⟨gn, 0, none⟩ = some (.string n.f0) from (blk_cell (blk_below HG.out hS) 0).trans rfl)
        have s1 := (show w'.cell? ⟨gn, 1, none⟩ = some (.int .i64 n.f1) from (blk_cell (blk_below HG.out hS) 1).trans rfl)
        have s2 := (show w'.cell? ⟨gn, 2, none⟩ = some (.string n.f2) from (blk_cell (blk_below HG.out hS) 2).trans rfl)
        go_simp
        with_reducible rfl
      rotate_left
      · simp only [Act.put, List.setIfInBounds_toArray, List.set_cons_zero, List.set_cons_succ, i64_w, i32_w]
        rfl
      refine one_ (i := 2) (N := some 17) (bmG 10 247) rfl rfl (by kernel_rfl) (by decide) (fun Kz hKz => ?_)
      refine goes_ Tryz.func61 (by kernel_rfl) rfl #[.agg #[.string n.f0, .int .i64 n.f1, .string n.f2]] (by rfl) rfl rfl (by (try simp only [List.map_toArray, List.map_cons, List.map_nil]); first | done | rfl) ?_
      refine (tar_name.calls n.f0 n.f1 n.f2 _ _ HN.out).mono ?_
      rintro e wc ⟨rfl, hb⟩
      refine ⟨_, rfl, ?_⟩
      refine hKz.out _ _ (below_step hS hb) (fun hS => ?_)
      clear hKz Kz
      refine norm_ (a' := ?_) ?_ ?_
      rotate_left
      · show Act.put _ (some 17) _ = _
        simp only [Act.put, List.setIfInBounds_toArray, List.set_cons_zero, List.set_cons_succ, i64_w, i32_w]
        rfl
      refine one_ (i := 3) (N := some 18) (bmG 10 255) rfl rfl (by kernel_rfl) (by decide) (fun Kz hKz => ?_)
      refine goes_ Tryz.func60 (by kernel_rfl) rfl #[.string (nameN n)] (by rfl) rfl rfl (by (try simp only [List.map_toArray, List.map_cons, List.map_nil]); first | done | rfl) ?_
      refine (tar_cut.calls (nameN n) _ _ HC1.out).mono ?_
      rintro e wc ⟨rfl, hb⟩
      refine ⟨_, rfl, ?_⟩
      refine hKz.out _ _ (below_step hS hb) (fun hS => ?_)
      clear hKz Kz
      refine norm_ (a' := ?_) ?_ ?_
      rotate_left
      · show Act.put _ (some 18) _ = _
        simp only [Act.put, List.setIfInBounds_toArray, List.set_cons_zero, List.set_cons_succ, i64_w, i32_w]
        rfl
      refine one_ (i := 8) (N := some 23) (bmG 10 511) rfl rfl (by kernel_rfl) (by decide) (fun Kz hKz => ?_)
      refine goes_ Tryz.func60 (by kernel_rfl) rfl #[.string n.f2] (by rfl) rfl rfl (by (try simp only [List.map_toArray, List.map_cons, List.map_nil]); first | done | rfl) ?_
      refine (tar_cut.calls n.f2 _ _ HC2.out).mono ?_
      rintro e wc ⟨rfl, hb⟩
      refine ⟨_, rfl, ?_⟩
      refine hKz.out _ _ (below_step hS hb) (fun hS => ?_)
      clear hKz Kz
      refine norm_ (a' := ?_) ?_ ?_
      rotate_left
      · show Act.put _ (some 23) _ = _
        simp only [Act.put, List.setIfInBounds_toArray, List.set_cons_zero, List.set_cons_succ, i64_w, i32_w]
        rfl
      refine last_ (i := 9) (N := some 24) (bmG 10 1023) rfl rfl (by kernel_rfl) (by decide) (fun Kz hKz => ?_)
      refine goes_ Tryz.func59 (by kernel_rfl) rfl #[.pointer (some ⟨gw, 0, none⟩), .string (cutS (nameN n)), .int .i64 n.f1, .string (cutS n.f2), .string ⟨#[]⟩] (by rfl) rfl rfl (by (try simp only [List.map_toArray, List.map_cons, List.map_nil]); first | done | rfl) ?_
      refine (entry_calls w0.heap.size gw v xs c ⟨cutS (nameN n), n.f1, cutS n.f2, ⟨#[]⟩⟩ _ ⟨Tabs.below hT.out (below_step HB.out hS)⟩ (HW.out.below hS) (by omega) (show (0 : Nat) ≤ 1000000 from by decide) hc0 (by omega) hbase).mono ?_
      rintro e wc ⟨rfl, v9, hw9, hb9, hk9⟩
      refine ⟨_, rfl, ?_⟩
      refine hKz.out _ _ ?_
      clear hKz Kz
      refine norm_ (a' := ?_) ?_ ?_
      rotate_left
      · show Act.put _ (some 24) _ = _
        simp only [Act.put, List.setIfInBounds_toArray, List.set_cons_zero, List.set_cons_succ, i64_w, i32_w]
        rfl
      refine done_ (by kernel_rfl) ?_
      have HEN := Aside0.mk (show entsN n = [⟨cutS (nameN n), n.f1, cutS n.f2, ⟨#[]⟩⟩] from by
        unfold entsN
        rw [HEX.out, HX.out, show ownE n = ⟨cutS (nameN n), n.f1, cutS n.f2, ⟨#[]⟩⟩ from if_pos (by simpa using hb4)]
        rfl)
      have HBF := Aside0.mk (below_base HB.out (below_wn hS hb9 HB.out.size))
      have HW9 := Aside0.mk hw9
      have HK9 := Aside0.mk (HKn.out.trans ((KeepU.below hS).trans hk9))
      clear hw9 hb9 hk9
      go_wp2_with fail
      first | go_end0 | ((try simp only [Exit.inBlock, Exit.then]); refine bodyPost_ret (results_none rfl _ _ _) rfl ?_)
      refine ⟨rfl, v9, ?_, HBF.out, HK9.out⟩
      rw [HEN.out]
      have h9 := HW9.out
      simpa [List.append_assoc, Int.add_assoc] using h9
    | false =>
      go_wp2_with fail
      refine start_ (n := 9) (S := fun w' => Below Wn.heap.size Wn w') (ds := [8]) (bmG 9 0) (by kernel_rfl) rfl (by kernel_rfl) (below_drew1 (Below.refl Wn.heap.size Wn)) (fun hS => ?_)
      generalize Wn.drew = wd at hS ⊢
      refine pure_ (i := 0) (N := some 25) (v := ?_) (a' := ?_) (bmG 9 1) rfl rfl (by kernel_rfl) (fun _ _ _ h => h) (Or.inl ⟨by rfl, ?_⟩) ?_ ?_
      rotate_left
      · intro w'
        go_simp
        with_reducible rfl
      rotate_left
      · simp only [Act.put, List.setIfInBounds_toArray, List.set_cons_zero, List.set_cons_succ, i64_w, i32_w]
        rfl
      refine take_ (i := 1) (N := some 26) (v := ?_) (a' := ?_) (bmG 9 3) rfl rfl (by kernel_rfl) (fun _ _ _ h => h) (Or.inl ⟨by rfl, ?_⟩) hS ?_ ?_
      rotate_left
      · intro w' hS
        have s0 := (show w'.cell? ⟨gn, 0, none⟩ = some (.string n.f0) from (blk_cell (blk_below HG.out hS) 0).trans rfl)
        have s1 := (show w'.cell? ⟨gn, 1, none⟩ = some (.int .i64 n.f1) from (blk_cell (blk_below HG.out hS) 1).trans rfl)
        have s2 := (show w'.cell? ⟨gn, 2, none⟩ = some (.string n.f2) from (blk_cell (blk_below HG.out hS) 2).trans rfl)
        go_simp
        with_reducible rfl
      rotate_left
      · simp only [Act.put, List.setIfInBounds_toArray, List.set_cons_zero, List.set_cons_succ, i64_w, i32_w]
        rfl
      refine pure_ (i := 4) (N := some 29) (v := ?_) (a' := ?_) (bmG 9 19) rfl rfl (by kernel_rfl) (fun _ _ _ h => h) (Or.inl ⟨by rfl, ?_⟩) ?_ ?_
      rotate_left
      · intro w'
        go_simp
        with_reducible rfl
      rotate_left
      · simp only [Act.put, List.setIfInBounds_toArray, List.set_cons_zero, List.set_cons_succ, i64_w, i32_w]
        rfl
      refine take_ (i := 5) (N := some 30) (v := ?_) (a' := ?_) (bmG 9 51) rfl rfl (by kernel_rfl) (fun _ _ _ h => h) (Or.inl ⟨by rfl, ?_⟩) hS ?_ ?_
      rotate_left
      · intro w' hS
        have s0 := (show w'.cell? ⟨gn, 0, none⟩ = some (.string n.f0) from (blk_cell (blk_below HG.out hS) 0).trans rfl)
        have s1 := (show w'.cell? ⟨gn, 1, none⟩ = some (.int .i64 n.f1) from (blk_cell (blk_below HG.out hS) 1).trans rfl)
        have s2 := (show w'.cell? ⟨gn, 2, none⟩ = some (.string n.f2) from (blk_cell (blk_below HG.out hS) 2).trans rfl)
        go_simp
        with_reducible rfl
      rotate_left
      · simp only [Act.put, List.setIfInBounds_toArray, List.set_cons_zero, List.set_cons_succ, i64_w, i32_w]
        rfl
      refine pure_ (i := 6) (N := some 31) (v := ?_) (a' := ?_) (bmG 9 115) rfl rfl (by kernel_rfl) (fun _ _ _ h => h) (Or.inl ⟨by rfl, ?_⟩) ?_ ?_
      rotate_left
      · intro w'
        go_simp
        with_reducible rfl
      rotate_left
      · simp only [Act.put, List.setIfInBounds_toArray, List.set_cons_zero, List.set_cons_succ, i64_w, i32_w]
        rfl
      refine take_ (i := 7) (N := some 32) (v := ?_) (a' := ?_) (bmG 9 243) rfl rfl (by kernel_rfl) (fun _ _ _ h => h) (Or.inl ⟨by rfl, ?_⟩) hS ?_ ?_
      rotate_left
      · intro w' hS
        have s0 := (show w'.cell? ⟨gn, 0, none⟩ = some (.string n.f0) from (blk_cell (blk_below HG.out hS) 0).trans rfl)
        have s1 := (show w'.cell? ⟨gn, 1, none⟩ = some (.int .i64 n.f1) from (blk_cell (blk_below HG.out hS) 1).trans rfl)
        have s2 := (show w'.cell? ⟨gn, 2, none⟩ = some (.string n.f2) from (blk_cell (blk_below HG.out hS) 2).trans rfl)
        go_simp
        with_reducible rfl
      rotate_left
      · simp only [Act.put, List.setIfInBounds_toArray, List.set_cons_zero, List.set_cons_succ, i64_w, i32_w]
        rfl
      refine one_ (i := 2) (N := some 27) (bmG 9 247) rfl rfl (by kernel_rfl) (by decide) (fun Kz hKz => ?_)
      refine goes_ Tryz.func61 (by kernel_rfl) rfl #[.agg #[.string n.f0, .int .i64 n.f1, .string n.f2]] (by rfl) rfl rfl (by (try simp only [List.map_toArray, List.map_cons, List.map_nil]); first | done | rfl) ?_
      refine (tar_name.calls n.f0 n.f1 n.f2 _ _ HN.out).mono ?_
      rintro e wc ⟨rfl, hb⟩
      refine ⟨_, rfl, ?_⟩
      refine hKz.out _ _ (below_step hS hb) (fun hS => ?_)
      clear hKz Kz
      refine norm_ (a' := ?_) ?_ ?_
      rotate_left
      · show Act.put _ (some 27) _ = _
        simp only [Act.put, List.setIfInBounds_toArray, List.set_cons_zero, List.set_cons_succ, i64_w, i32_w]
        rfl
      refine one_ (i := 3) (N := some 28) (bmG 9 255) rfl rfl (by kernel_rfl) (by decide) (fun Kz hKz => ?_)
      refine goes_ Tryz.func60 (by kernel_rfl) rfl #[.string (nameN n)] (by rfl) rfl rfl (by (try simp only [List.map_toArray, List.map_cons, List.map_nil]); first | done | rfl) ?_
      refine (tar_cut.calls (nameN n) _ _ HC1.out).mono ?_
      rintro e wc ⟨rfl, hb⟩
      refine ⟨_, rfl, ?_⟩
      refine hKz.out _ _ (below_step hS hb) (fun hS => ?_)
      clear hKz Kz
      refine norm_ (a' := ?_) ?_ ?_
      rotate_left
      · show Act.put _ (some 28) _ = _
        simp only [Act.put, List.setIfInBounds_toArray, List.set_cons_zero, List.set_cons_succ, i64_w, i32_w]
        rfl
      refine last_ (i := 8) (N := some 33) (bmG 9 511) rfl rfl (by kernel_rfl) (by decide) (fun Kz hKz => ?_)
      refine goes_ Tryz.func59 (by kernel_rfl) rfl #[.pointer (some ⟨gw, 0, none⟩), .string (cutS (nameN n)), .int .i64 n.f1, .string ⟨#[]⟩, .string n.f2] (by rfl) rfl rfl (by (try simp only [List.map_toArray, List.map_cons, List.map_nil]); first | done | rfl) ?_
      refine (entry_calls w0.heap.size gw v xs c ⟨cutS (nameN n), n.f1, ⟨#[]⟩, n.f2⟩ _ ⟨Tabs.below hT.out (below_step HB.out hS)⟩ (HW.out.below hS) (by omega) (by show n.f2.size ≤ 1000000; omega) hc0 (by omega) hbase).mono ?_
      rintro e wc ⟨rfl, v9, hw9, hb9, hk9⟩
      refine ⟨_, rfl, ?_⟩
      refine hKz.out _ _ ?_
      clear hKz Kz
      refine norm_ (a' := ?_) ?_ ?_
      rotate_left
      · show Act.put _ (some 33) _ = _
        simp only [Act.put, List.setIfInBounds_toArray, List.set_cons_zero, List.set_cons_succ, i64_w, i32_w]
        rfl
      refine done_ (by kernel_rfl) ?_
      have HEN := Aside0.mk (show entsN n = [⟨cutS (nameN n), n.f1, ⟨#[]⟩, n.f2⟩] from by
        unfold entsN
        rw [HEX.out, HX.out, show ownE n = ⟨cutS (nameN n), n.f1, ⟨#[]⟩, n.f2⟩ from if_neg (by simpa using hb4)]
        rfl)
      have HBF := Aside0.mk (below_base HB.out (below_wn hS hb9 HB.out.size))
      have HW9 := Aside0.mk hw9
      have HK9 := Aside0.mk (HKn.out.trans ((KeepU.below hS).trans hk9))
      clear hw9 hb9 hk9
      go_wp2_with fail
      first | go_end0 | ((try simp only [Exit.inBlock, Exit.then]); refine bodyPost_ret (results_none rfl _ _ _) rfl ?_)
      refine ⟨rfl, v9, ?_, HBF.out, HK9.out⟩
      rw [HEN.out]
      have h9 := HW9.out
      simpa [List.append_assoc, Int.add_assoc] using h9
  | true =>
    have HX := Aside0.mk (show (if ex.size = 0 then ([] : List EntT) else [⟨⟨#[112, 97, 120]⟩, 5, ⟨#[]⟩, ex⟩]) = [⟨⟨#[112, 97, 120]⟩, 5, ⟨#[]⟩, ex⟩] from if_neg (fun e => (bne_iff_ne.1 HX0.out) ((toList_nil _).2 e)))
    go_wp2_with fail
    refine (entry_calls w0.heap.size gw v xs c ⟨⟨#[112, 97, 120]⟩, 5, ⟨#[]⟩, ex⟩ Wn ⟨Tabs.below hT.out HB.out⟩ HW.out (by omega) (by show ex.size ≤ 1000000; omega) hc0 (by omega) hbase).mono ?_
    rintro e Wm ⟨rfl, vm, hwm, hbm, hkm⟩
    have HBm := Aside0.mk (below_base HB.out hbm)
    have HGm := Aside0.mk (hkm gn _ _ (fun e => hgn e.symm) (by decide) HG.out)
    have HWm := Aside0.mk hwm
    have HKm := Aside0.mk (HKn.out.trans hkm)
    have hlm := entryB_len ⟨⟨#[112, 97, 120]⟩, 5, ⟨#[]⟩, ex⟩
    have hlm2 : (xs ++ entryB ⟨⟨#[112, 97, 120]⟩, 5, ⟨#[]⟩, ex⟩).length ≤ 1000000000 := by
      rw [List.length_append]
      have : (⟨⟨#[112, 97, 120]⟩, 5, ⟨#[]⟩, ex⟩ : EntT).data.size = ex.size := rfl
      omega
    clear hwm hbm hkm HB HG HW HKn z1 hlm
    have z1 := (show Wm.cell? ⟨gn, 1, none⟩ = some (.int .i64 n.f1) from (blk_cell HGm.out 1).trans rfl)
    cases b4 with
    | true =>
      go_wp2_with fail
      refine start_ (n := 10) (S := fun w' => Below Wm.heap.size Wm w') (ds := [9]) (bmG 10 0) (by kernel_rfl) rfl (by kernel_rfl) (below_drew1 (Below.refl Wm.heap.size Wm)) (fun hS => ?_)
      generalize Wm.drew = wd at hS ⊢
      refine pure_ (i := 0) (N := some 15) (v := ?_) (a' := ?_) (bmG 10 1) rfl rfl (by kernel_rfl) (fun _ _ _ h => h) (Or.inl ⟨by rfl, ?_⟩) ?_ ?_
      rotate_left
      · intro w'
        go_simp
        with_reducible rfl
      rotate_left
      · simp only [Act.put, List.setIfInBounds_toArray, List.set_cons_zero, List.set_cons_succ, i64_w, i32_w]
        rfl
      refine take_ (i := 1) (N := some 16) (v := ?_) (a' := ?_) (bmG 10 3) rfl rfl (by kernel_rfl) (fun _ _ _ h => h) (Or.inl ⟨by rfl, ?_⟩) hS ?_ ?_
      rotate_left
      · intro w' hS
        have s0 := (show w'.cell? ⟨gn, 0, none⟩ = some (.string n.f0) from (blk_cell (blk_below HGm.out hS) 0).trans rfl)
        have s1 := (show w'.cell? ⟨gn, 1, none⟩ = some (.int .i64 n.f1) from (blk_cell (blk_below HGm.out hS) 1).trans rfl)
        have s2 := (show w'.cell? ⟨gn, 2, none⟩ = some (.string n.f2) from (blk_cell (blk_below HGm.out hS) 2).trans rfl)
        go_simp
        with_reducible rfl
      rotate_left
      · simp only [Act.put, List.setIfInBounds_toArray, List.set_cons_zero, List.set_cons_succ, i64_w, i32_w]
        rfl
      refine pure_ (i := 4) (N := some 19) (v := ?_) (a' := ?_) (bmG 10 19) rfl rfl (by kernel_rfl) (fun _ _ _ h => h) (Or.inl ⟨by rfl, ?_⟩) ?_ ?_
      rotate_left
      · intro w'
        go_simp
        with_reducible rfl
      rotate_left
      · simp only [Act.put, List.setIfInBounds_toArray, List.set_cons_zero, List.set_cons_succ, i64_w, i32_w]
        rfl
      refine take_ (i := 5) (N := some 20) (v := ?_) (a' := ?_) (bmG 10 51) rfl rfl (by kernel_rfl) (fun _ _ _ h => h) (Or.inl ⟨by rfl, ?_⟩) hS ?_ ?_
      rotate_left
      · intro w' hS
        have s0 := (show w'.cell? ⟨gn, 0, none⟩ = some (.string n.f0) from (blk_cell (blk_below HGm.out hS) 0).trans rfl)
        have s1 := (show w'.cell? ⟨gn, 1, none⟩ = some (.int .i64 n.f1) from (blk_cell (blk_below HGm.out hS) 1).trans rfl)
        have s2 := (show w'.cell? ⟨gn, 2, none⟩ = some (.string n.f2) from (blk_cell (blk_below HGm.out hS) 2).trans rfl)
        go_simp
        with_reducible rfl
      rotate_left
      · simp only [Act.put, List.setIfInBounds_toArray, List.set_cons_zero, List.set_cons_succ, i64_w, i32_w]
        rfl
      refine pure_ (i := 6) (N := some 21) (v := ?_) (a' := ?_) (bmG 10 115) rfl rfl (by kernel_rfl) (fun _ _ _ h => h) (Or.inl ⟨by rfl, ?_⟩) ?_ ?_
      rotate_left
      · intro w'
        go_simp
        with_reducible rfl
      rotate_left
      · simp only [Act.put, List.setIfInBounds_toArray, List.set_cons_zero, List.set_cons_succ, i64_w, i32_w]
        rfl
      refine take_ (i := 7) (N := some 22) (v := ?_) (a' := ?_) (bmG 10 243) rfl rfl (by kernel_rfl) (fun _ _ _ h => h) (Or.inl ⟨by rfl, ?_⟩) hS ?_ ?_
      rotate_left
      · intro w' hS
        have s0 := (show w'.cell? ⟨gn, 0, none⟩ = some (.string n.f0) from (blk_cell (blk_below HGm.out hS) 0).trans rfl)
        have s1 := (show w'.cell? ⟨gn, 1, none⟩ = some (.int .i64 n.f1) from (blk_cell (blk_below HGm.out hS) 1).trans rfl)
        have s2 := (show w'.cell? ⟨gn, 2, none⟩ = some (.string n.f2) from (blk_cell (blk_below HGm.out hS) 2).trans rfl)
        go_simp
        with_reducible rfl
      rotate_left
      · simp only [Act.put, List.setIfInBounds_toArray, List.set_cons_zero, List.set_cons_succ, i64_w, i32_w]
        rfl
      refine one_ (i := 2) (N := some 17) (bmG 10 247) rfl rfl (by kernel_rfl) (by decide) (fun Kz hKz => ?_)
      refine goes_ Tryz.func61 (by kernel_rfl) rfl #[.agg #[.string n.f0, .int .i64 n.f1, .string n.f2]] (by rfl) rfl rfl (by (try simp only [List.map_toArray, List.map_cons, List.map_nil]); first | done | rfl) ?_
      refine (tar_name.calls n.f0 n.f1 n.f2 _ _ HN.out).mono ?_
      rintro e wc ⟨rfl, hb⟩
      refine ⟨_, rfl, ?_⟩
      refine hKz.out _ _ (below_step hS hb) (fun hS => ?_)
      clear hKz Kz
      refine norm_ (a' := ?_) ?_ ?_
      rotate_left
      · show Act.put _ (some 17) _ = _
        simp only [Act.put, List.setIfInBounds_toArray, List.set_cons_zero, List.set_cons_succ, i64_w, i32_w]
        rfl
      refine one_ (i := 3) (N := some 18) (bmG 10 255) rfl rfl (by kernel_rfl) (by decide) (fun Kz hKz => ?_)
      refine goes_ Tryz.func60 (by kernel_rfl) rfl #[.string (nameN n)] (by rfl) rfl rfl (by (try simp only [List.map_toArray, List.map_cons, List.map_nil]); first | done | rfl) ?_
      refine (tar_cut.calls (nameN n) _ _ HC1.out).mono ?_
      rintro e wc ⟨rfl, hb⟩
      refine ⟨_, rfl, ?_⟩
      refine hKz.out _ _ (below_step hS hb) (fun hS => ?_)
      clear hKz Kz
      refine norm_ (a' := ?_) ?_ ?_
      rotate_left
      · show Act.put _ (some 18) _ = _
        simp only [Act.put, List.setIfInBounds_toArray, List.set_cons_zero, List.set_cons_succ, i64_w, i32_w]
        rfl
      refine one_ (i := 8) (N := some 23) (bmG 10 511) rfl rfl (by kernel_rfl) (by decide) (fun Kz hKz => ?_)
      refine goes_ Tryz.func60 (by kernel_rfl) rfl #[.string n.f2] (by rfl) rfl rfl (by (try simp only [List.map_toArray, List.map_cons, List.map_nil]); first | done | rfl) ?_
      refine (tar_cut.calls n.f2 _ _ HC2.out).mono ?_
      rintro e wc ⟨rfl, hb⟩
      refine ⟨_, rfl, ?_⟩
      refine hKz.out _ _ (below_step hS hb) (fun hS => ?_)
      clear hKz Kz
      refine norm_ (a' := ?_) ?_ ?_
      rotate_left
      · show Act.put _ (some 23) _ = _
        simp only [Act.put, List.setIfInBounds_toArray, List.set_cons_zero, List.set_cons_succ, i64_w, i32_w]
        rfl
      refine last_ (i := 9) (N := some 24) (bmG 10 1023) rfl rfl (by kernel_rfl) (by decide) (fun Kz hKz => ?_)
      refine goes_ Tryz.func59 (by kernel_rfl) rfl #[.pointer (some ⟨gw, 0, none⟩), .string (cutS (nameN n)), .int .i64 n.f1, .string (cutS n.f2), .string ⟨#[]⟩] (by rfl) rfl rfl (by (try simp only [List.map_toArray, List.map_cons, List.map_nil]); first | done | rfl) ?_
      refine (entry_calls w0.heap.size gw vm (xs ++ entryB ⟨⟨#[112, 97, 120]⟩, 5, ⟨#[]⟩, ex⟩) (c + 1) ⟨cutS (nameN n), n.f1, cutS n.f2, ⟨#[]⟩⟩ _ ⟨Tabs.below hT.out (below_step HBm.out hS)⟩ (HWm.out.below hS) (by omega) (show (0 : Nat) ≤ 1000000 from by decide) (by omega) (by omega) hbase).mono ?_
      rintro e wc ⟨rfl, v9, hw9, hb9, hk9⟩
      refine ⟨_, rfl, ?_⟩
      refine hKz.out _ _ ?_
      clear hKz Kz
      refine norm_ (a' := ?_) ?_ ?_
      rotate_left
      · show Act.put _ (some 24) _ = _
        simp only [Act.put, List.setIfInBounds_toArray, List.set_cons_zero, List.set_cons_succ, i64_w, i32_w]
        rfl
      refine done_ (by kernel_rfl) ?_
      have HEN := Aside0.mk (show entsN n = [⟨⟨#[112, 97, 120]⟩, 5, ⟨#[]⟩, ex⟩, ⟨cutS (nameN n), n.f1, cutS n.f2, ⟨#[]⟩⟩] from by
        unfold entsN
        rw [HEX.out, HX.out, show ownE n = ⟨cutS (nameN n), n.f1, cutS n.f2, ⟨#[]⟩⟩ from if_pos (by simpa using hb4)]
        rfl)
      have HBF := Aside0.mk (below_base HBm.out (below_wn hS hb9 HBm.out.size))
      have HW9 := Aside0.mk hw9
      have HK9 := Aside0.mk (HKm.out.trans ((KeepU.below hS).trans hk9))
      clear hw9 hb9 hk9
      go_wp2_with fail
      first | go_end0 | ((try simp only [Exit.inBlock, Exit.then]); refine bodyPost_ret (results_none rfl _ _ _) rfl ?_)
      refine ⟨rfl, v9, ?_, HBF.out, HK9.out⟩
      rw [HEN.out]
      have h9 := HW9.out
      simpa [List.append_assoc, Int.add_assoc] using h9
    | false =>
      go_wp2_with fail
      refine start_ (n := 9) (S := fun w' => Below Wm.heap.size Wm w') (ds := [8]) (bmG 9 0) (by kernel_rfl) rfl (by kernel_rfl) (below_drew1 (Below.refl Wm.heap.size Wm)) (fun hS => ?_)
      generalize Wm.drew = wd at hS ⊢
      refine pure_ (i := 0) (N := some 25) (v := ?_) (a' := ?_) (bmG 9 1) rfl rfl (by kernel_rfl) (fun _ _ _ h => h) (Or.inl ⟨by rfl, ?_⟩) ?_ ?_
      rotate_left
      · intro w'
        go_simp
        with_reducible rfl
      rotate_left
      · simp only [Act.put, List.setIfInBounds_toArray, List.set_cons_zero, List.set_cons_succ, i64_w, i32_w]
        rfl
      refine take_ (i := 1) (N := some 26) (v := ?_) (a' := ?_) (bmG 9 3) rfl rfl (by kernel_rfl) (fun _ _ _ h => h) (Or.inl ⟨by rfl, ?_⟩) hS ?_ ?_
      rotate_left
      · intro w' hS
        have s0 := (show w'.cell? ⟨gn, 0, none⟩ = some (.string n.f0) from (blk_cell (blk_below HGm.out hS) 0).trans rfl)
        have s1 := (show w'.cell? ⟨gn, 1, none⟩ = some (.int .i64 n.f1) from (blk_cell (blk_below HGm.out hS) 1).trans rfl)
        have s2 := (show w'.cell? ⟨gn, 2, none⟩ = some (.string n.f2) from (blk_cell (blk_below HGm.out hS) 2).trans rfl)
        go_simp
        with_reducible rfl
      rotate_left
      · simp only [Act.put, List.setIfInBounds_toArray, List.set_cons_zero, List.set_cons_succ, i64_w, i32_w]
        rfl
      refine pure_ (i := 4) (N := some 29) (v := ?_) (a' := ?_) (bmG 9 19) rfl rfl (by kernel_rfl) (fun _ _ _ h => h) (Or.inl ⟨by rfl, ?_⟩) ?_ ?_
      rotate_left
      · intro w'
        go_simp
        with_reducible rfl
      rotate_left
      · simp only [Act.put, List.setIfInBounds_toArray, List.set_cons_zero, List.set_cons_succ, i64_w, i32_w]
        rfl
      refine take_ (i := 5) (N := some 30) (v := ?_) (a' := ?_) (bmG 9 51) rfl rfl (by kernel_rfl) (fun _ _ _ h => h) (Or.inl ⟨by rfl, ?_⟩) hS ?_ ?_
      rotate_left
      · intro w' hS
        have s0 := (show w'.cell? ⟨gn, 0, none⟩ = some (.string n.f0) from (blk_cell (blk_below HGm.out hS) 0).trans rfl)
        have s1 := (show w'.cell? ⟨gn, 1, none⟩ = some (.int .i64 n.f1) from (blk_cell (blk_below HGm.out hS) 1).trans rfl)
        have s2 := (show w'.cell? ⟨gn, 2, none⟩ = some (.string n.f2) from (blk_cell (blk_below HGm.out hS) 2).trans rfl)
        go_simp
        with_reducible rfl
      rotate_left
      · simp only [Act.put, List.setIfInBounds_toArray, List.set_cons_zero, List.set_cons_succ, i64_w, i32_w]
        rfl
      refine pure_ (i := 6) (N := some 31) (v := ?_) (a' := ?_) (bmG 9 115) rfl rfl (by kernel_rfl) (fun _ _ _ h => h) (Or.inl ⟨by rfl, ?_⟩) ?_ ?_
      rotate_left
      · intro w'
        go_simp
        with_reducible rfl
      rotate_left
      · simp only [Act.put, List.setIfInBounds_toArray, List.set_cons_zero, List.set_cons_succ, i64_w, i32_w]
        rfl
      refine take_ (i := 7) (N := some 32) (v := ?_) (a' := ?_) (bmG 9 243) rfl rfl (by kernel_rfl) (fun _ _ _ h => h) (Or.inl ⟨by rfl, ?_⟩) hS ?_ ?_
      rotate_left
      · intro w' hS
        have s0 := (show w'.cell? ⟨gn, 0, none⟩ = some (.string n.f0) from (blk_cell (blk_below HGm.out hS) 0).trans rfl)
        have s1 := (show w'.cell? ⟨gn, 1, none⟩ = some (.int .i64 n.f1) from (blk_cell (blk_below HGm.out hS) 1).trans rfl)
        have s2 := (show w'.cell? ⟨gn, 2, none⟩ = some (.string n.f2) from (blk_cell (blk_below HGm.out hS) 2).trans rfl)
        go_simp
        with_reducible rfl
      rotate_left
      · simp only [Act.put, List.setIfInBounds_toArray, List.set_cons_zero, List.set_cons_succ, i64_w, i32_w]
        rfl
      refine one_ (i := 2) (N := some 27) (bmG 9 247) rfl rfl (by kernel_rfl) (by decide) (fun Kz hKz => ?_)
      refine goes_ Tryz.func61 (by kernel_rfl) rfl #[.agg #[.string n.f0, .int .i64 n.f1, .string n.f2]] (by rfl) rfl rfl (by (try simp only [List.map_toArray, List.map_cons, List.map_nil]); first | done | rfl) ?_
      refine (tar_name.calls n.f0 n.f1 n.f2 _ _ HN.out).mono ?_
      rintro e wc ⟨rfl, hb⟩
      refine ⟨_, rfl, ?_⟩
      refine hKz.out _ _ (below_step hS hb) (fun hS => ?_)
      clear hKz Kz
      refine norm_ (a' := ?_) ?_ ?_
      rotate_left
      · show Act.put _ (some 27) _ = _
        simp only [Act.put, List.setIfInBounds_toArray, List.set_cons_zero, List.set_cons_succ, i64_w, i32_w]
        rfl
      refine one_ (i := 3) (N := some 28) (bmG 9 255) rfl rfl (by kernel_rfl) (by decide) (fun Kz hKz => ?_)
      refine goes_ Tryz.func60 (by kernel_rfl) rfl #[.string (nameN n)] (by rfl) rfl rfl (by (try simp only [List.map_toArray, List.map_cons, List.map_nil]); first | done | rfl) ?_
      refine (tar_cut.calls (nameN n) _ _ HC1.out).mono ?_
      rintro e wc ⟨rfl, hb⟩
      refine ⟨_, rfl, ?_⟩
      refine hKz.out _ _ (below_step hS hb) (fun hS => ?_)
      clear hKz Kz
      refine norm_ (a' := ?_) ?_ ?_
      rotate_left
      · show Act.put _ (some 28) _ = _
        simp only [Act.put, List.setIfInBounds_toArray, List.set_cons_zero, List.set_cons_succ, i64_w, i32_w]
        rfl
      refine last_ (i := 8) (N := some 33) (bmG 9 511) rfl rfl (by kernel_rfl) (by decide) (fun Kz hKz => ?_)
      refine goes_ Tryz.func59 (by kernel_rfl) rfl #[.pointer (some ⟨gw, 0, none⟩), .string (cutS (nameN n)), .int .i64 n.f1, .string ⟨#[]⟩, .string n.f2] (by rfl) rfl rfl (by (try simp only [List.map_toArray, List.map_cons, List.map_nil]); first | done | rfl) ?_
      refine (entry_calls w0.heap.size gw vm (xs ++ entryB ⟨⟨#[112, 97, 120]⟩, 5, ⟨#[]⟩, ex⟩) (c + 1) ⟨cutS (nameN n), n.f1, ⟨#[]⟩, n.f2⟩ _ ⟨Tabs.below hT.out (below_step HBm.out hS)⟩ (HWm.out.below hS) (by omega) (by show n.f2.size ≤ 1000000; omega) (by omega) (by omega) hbase).mono ?_
      rintro e wc ⟨rfl, v9, hw9, hb9, hk9⟩
      refine ⟨_, rfl, ?_⟩
      refine hKz.out _ _ ?_
      clear hKz Kz
      refine norm_ (a' := ?_) ?_ ?_
      rotate_left
      · show Act.put _ (some 33) _ = _
        simp only [Act.put, List.setIfInBounds_toArray, List.set_cons_zero, List.set_cons_succ, i64_w, i32_w]
        rfl
      refine done_ (by kernel_rfl) ?_
      have HEN := Aside0.mk (show entsN n = [⟨⟨#[112, 97, 120]⟩, 5, ⟨#[]⟩, ex⟩, ⟨cutS (nameN n), n.f1, ⟨#[]⟩, n.f2⟩] from by
        unfold entsN
        rw [HEX.out, HX.out, show ownE n = ⟨cutS (nameN n), n.f1, ⟨#[]⟩, n.f2⟩ from if_neg (by simpa using hb4)]
        rfl)
      have HBF := Aside0.mk (below_base HBm.out (below_wn hS hb9 HBm.out.size))
      have HW9 := Aside0.mk hw9
      have HK9 := Aside0.mk (HKm.out.trans ((KeepU.below hS).trans hk9))
      clear hw9 hb9 hk9
      go_wp2_with fail
      first | go_end0 | ((try simp only [Exit.inBlock, Exit.then]); refine bodyPost_ret (results_none rfl _ _ _) rfl ?_)
      refine ⟨rfl, v9, ?_, HBF.out, HK9.out⟩
      rw [HEN.out]
      have h9 := HW9.out
      simpa [List.append_assoc, Int.add_assoc] using h9
end Go.Proofs.YtdijnmcfpbceaaaGreatDoor.X

namespace Go.Proofs.YtdijnmcfpbceaaaGreatDoor.X
open Go.RowKit Go.Proofs.YtdijnmcfpbceaaaGreatDoorW.PrintWords Go.Proofs.YtdijnmcfpbceaaaGreatDoorW.PrintLast Go.Proofs.YtdijnmcfpbceaaaGreatDoorW.PrintMore Go.Proofs.YtdijnmcfpbceaaaGreatDoor.P
set_option linter.unusedVariables false
set_option linter.unusedSimpArgs false
theorem treeR_good : ∀ (l ahead : List S47), treeR ahead l = true → (∀ n ∈ l, goodN n = true) ∧ ahead.length + l.length ≤ max 400 ahead.length
  | [], ahead, _ => ⟨fun n h => (by cases h), (by simp only [List.length_nil]; omega)⟩
  | n :: l, ahead, h => by
    unfold treeR at h
    rw [Bool.and_eq_true, Bool.and_eq_true, Bool.and_eq_true, decide_eq_true_eq] at h
    obtain ⟨⟨⟨h1, h2⟩, _⟩, h3⟩ := h
    obtain ⟨i1, i2⟩ := treeR_good l (ahead ++ [n]) h3
    refine ⟨fun m hm => ?_, ?_⟩
    · rcases List.mem_cons.1 hm with rfl | hm
      · exact h2
      · exact i1 m hm
    · rw [List.length_append, List.length_singleton] at i2
      rw [List.length_cons]
      omega
theorem treeB_good {t : List S47} (h : treeB t = true) : (∀ n ∈ t, n.f0.size ≤ 200 ∧ n.f2.size ≤ 400) ∧ t.length ≤ 400 := by
  unfold treeB at h
  rw [Bool.and_eq_true] at h
  obtain ⟨h1, h2⟩ := treeR_good t [] h.2
  refine ⟨fun n hn => ?_, by simpa using h2⟩
  have hg := h1 n hn
  unfold goodN at hg
  rw [Bool.and_eq_true, Bool.and_eq_true, decide_eq_true_eq] at hg
  exact ⟨path_small hg.1.1, hg.1.2⟩
theorem ents_bound (n : S47) (h0 : n.f0.size ≤ 1000) (h2 : n.f2.size ≤ 1000) : (entsN n).length ≤ 2 ∧ ((entsN n).flatMap entryB).length ≤ 16000 := by
  have hx := extraN_size n h0 h2
  have ho : (ownE n).data.size ≤ 1000 := by
    unfold ownE
    split
    · exact (by decide : (0 : Nat) ≤ 1000)
    · exact h2
  have h3 := entryB_len (ownE n)
  have h4 := entryB_len ⟨⟨#[112, 97, 120]⟩, 5, ⟨#[]⟩, extraN n⟩
  have h5 : (⟨⟨#[112, 97, 120]⟩, 5, ⟨#[]⟩, extraN n⟩ : EntT).data.size = (extraN n).size := rfl
  unfold entsN
  split
  · refine ⟨by simp, ?_⟩
    simp only [List.nil_append, List.flatMap_cons, List.flatMap_nil, List.append_nil]
    omega
  · refine ⟨by simp, ?_⟩
    simp only [List.cons_append, List.nil_append, List.flatMap_cons, List.flatMap_nil, List.append_nil, List.length_append]
    omega
set_option maxHeartbeats 4000000 in
set_option maxRecDepth 100000 in
theorem laid_calls (A0 : Option Addr) (c0 : Nat) (t : List S47) (w : World) (hT : Aside0 (Tabs w)) (hC : Kd.C k47 w A0 t.length t) (hc : t.length ≤ c0) (hn : treeB t = true) :
    Calls Tryz.prog 29 #[.slice A0 t.length c0] w fun e w' => ∃ gw v, e = .returned (.pointer (some ⟨gw, 0, none⟩)) ∧ WrAt w' w.heap.size gw v ((entsT t).flatMap entryB) ((entsT t).length : Nat) ∧ Below w.heap.size w w' := by
  have X := Aside0.mk hC
  have HG := Aside0.mk (treeB_good hn)
  clear hC hn
  have HBn := Aside0.mk (below_alloc (Below.refl w.heap.size w) (.cells #[.slice none 0 0, .int .i64 0] 56))
  have HZn := Aside0.mk (blk_new w (.cells #[.slice none 0 0, .int .i64 0] 56))
  go_enter Tryz.func29, Tryz.ntmps29
  go_wp2_with fail
  have hgs : w.heap.size ≤ w.heap.size := Nat.le_refl _
  go_loopw [13] (fun v13 wr => ∃ (i : Nat) (v : Value) (xs : List Int) (c : Nat), v13 = .int .i64 i ∧ i ≤ t.length ∧ xs.length ≤ 16000 * i ∧ c ≤ 2 * i ∧ Aside0 (xs = (entsT (t.take i)).flatMap entryB ∧ c = (entsT (t.take i)).length) ∧ Aside0 (WrAt wr w.heap.size w.heap.size v xs (c : Nat)) ∧ Aside0 (Below w.heap.size w wr)) (fun a _ => t.length - (intOf a).toNat)
  case atStart => exact ⟨0, _, [], 0, rfl, by omega, by simp, by omega, ⟨rfl, rfl⟩, ⟨⟨HZn.out, ⟨rfl, .inl ⟨rfl, rfl⟩⟩⟩⟩, HBn⟩
  case round =>
    clear HBn HZn
    obtain ⟨i, v, xs, c, rfl, hi, hxl, hcl, HXS, HW, HB⟩ := hrel
    have h400 := HG.out.2
    by_cases hil : i < t.length
    · have hic : decide ((i : Int) < (t.length : Int)) = true := decide_eq_true (by omega)
      have hi0 : 0 ≤ (i : Int) := by omega
      obtain ⟨ad, rfl, z0, z1, z2⟩ := at_T47 (Kd.C_below X.out HB.out) (i : Int) (by omega) (by omega)
      simp only [Int.toNat_natCast] at z0 z1 z2
      have HX := Aside0.mk (rdN_get t i hil)
      have HS := Aside0.mk (HG.out.1 t[i] (List.getElem_mem _))
      rw [← HX.out] at HS
      generalize rd_T47 t (i : Int) = x at *
      obtain ⟨hs0, hs2⟩ := HS.out
      have hbd := ents_bound x (by omega) (by omega)
      have HWn := Aside0.mk (HW.out.below (below_alloc (Below.refl wr.heap.size wr) (.cells #[.string x.f0, .int .i64 x.f1, .string x.f2] 47)))
      have HBn := Aside0.mk (below_alloc HB.out (.cells #[.string x.f0, .int .i64 x.f1, .string x.f2] 47))
      go_wp2_with fail
      refine (node_calls w w.heap.size v xs (c : Nat) x _ hT HBn.out HWn.out (by omega) (by omega) (by omega) (by omega) (by omega) hgs).mono ?_
      rintro e w5 ⟨rfl, v5, hw5, hb5, _⟩
      have HW5 := Aside0.mk hw5
      have HB5 := Aside0.mk hb5
      have HXS5 := Aside0.mk (show xs ++ (entsN x).flatMap entryB = (entsT (t.take (i + 1))).flatMap entryB ∧ c + (entsN x).length = (entsT (t.take (i + 1))).length from by
        rw [List.take_succ_eq_append_getElem hil, ← HX.out]
        unfold entsT
        rw [List.flatMap_append, List.flatMap_append, List.length_append]
        have h1 := HXS.out
        unfold entsT at h1
        simp only [List.flatMap_cons, List.flatMap_nil, List.append_nil]
        exact ⟨by rw [← h1.1], by rw [← h1.2]⟩)
      clear hw5 hb5 HW HB HWn HBn HXS z0 z1 z2
      go_wp2_with fail
      refine ⟨⟨i + 1, v5, _, c + (entsN x).length, by simp, by omega, ?_, by omega, HXS5, HW5, HB5⟩, by simp only [intOf]; omega⟩
      rw [List.length_append]
      omega
    · have hic : decide ((i : Int) < (t.length : Int)) = false := decide_eq_false (by omega)
      have hi2 : i = t.length := by omega
      subst hi2
      have HF := Aside0.mk (show xs = (entsT t).flatMap entryB ∧ c = (entsT t).length from by
        have := HXS.out
        rw [List.take_length] at this
        exact this)
      clear HXS hil hi
      go_wp2_with fail
      go_ret
      refine ⟨w.heap.size, v, rfl, ?_, HB.out⟩
      rw [← HF.out.1, ← HF.out.2]
      exact HW.out
theorem flat_bound : ∀ (t : List S47), (∀ n ∈ t, n.f0.size ≤ 200 ∧ n.f2.size ≤ 400) → ((entsT t).flatMap entryB).length ≤ 16000 * t.length
  | [], _ => by simp [entsT]
  | n :: t, h => by
    obtain ⟨a, b⟩ := h n List.mem_cons_self
    have h1 := (ents_bound n (by omega) (by omega)).2
    have h2 := flat_bound t (fun m hm => h m (List.mem_cons_of_mem _ hm))
    unfold entsT at h2 ⊢
    rw [List.flatMap_cons, List.flatMap_append, List.length_append, List.length_cons]
    omega
set_option maxHeartbeats 4000000 in
set_option maxRecDepth 100000 in
theorem tarLay_calls (A0 : Option Addr) (c0 : Nat) (t : List S47) (w : World) (hT : Aside0 (Tabs w)) (hC : Kd.C k47 w A0 t.length t) (hc : t.length ≤ c0) (hn : t.length ≤ 100000) :
    Calls Tryz.prog 10 #[.slice A0 t.length c0] w fun e w' => ∃ v, e = .returned (.tuple #[v, .int .i64 (tarR t).2]) ∧ w'.ownsRow w.heap.size 5 1 v (tarR t).1.length (nums .u8 (tarR t).1) ∧ Below w.heap.size w w' := by
  have X := Aside0.mk hC
  clear hC
  go_enter Tryz.func10, Tryz.ntmps10
  go_wp2_with fail
  refine (treeMay_calls A0 c0 t w hT X.out hc hn).mono ?_
  rintro e w1 ⟨rfl, hb1⟩
  have HB1 := Aside0.mk hb1
  clear hb1
  obtain ⟨bt, hbt⟩ : ∃ b, treeB t = b := ⟨_, rfl⟩
  have HBT := Aside0.mk hbt
  rw [hbt]
  clear hbt
  cases bt with
  | false =>
    have HR := Aside0.mk (show tarR t = ([], 7) from by unfold tarR; rw [if_neg (by rw [HBT.out]; simp)])
    go_wp2_with fail
    go_ret2
    rw [HR.out]
    exact ⟨.slice none 0 0, rfl, ⟨rfl, .inl ⟨rfl, rfl⟩⟩, HB1.out⟩
  | true =>
    have HR := Aside0.mk (show tarR t = (tarB t, 0) from by unfold tarR; rw [if_pos HBT.out])
    go_wp2_with fail
    refine (laid_calls A0 c0 t w1 ⟨Tabs.below hT.out HB1.out⟩ (Kd.C_below X.out HB1.out) hc HBT.out).mono ?_
    rintro e w2 ⟨gw, v, rfl, hw2, hb2⟩
    have HB2 := Aside0.mk (below_step HB1.out hb2)
    have z0 := (show w2.cell? ⟨gw, 0, none⟩ = some v from (blk_cell hw2.cell 0).trans rfl)
    have HW2 := Aside0.mk (own_weaken hw2.row HB1.out.size)
    clear hw2 hb2
    have hfb := flat_bound t (treeB_good HBT.out).1
    have h400 := (treeB_good HBT.out).2
    have HTB := Aside0.mk (show tarB t = (entsT t).flatMap entryB ++ List.replicate 1024 0 from rfl)
    generalize (entsT t).flatMap entryB = zs at *
    go_wp2_with (at_builtin; refine append_zerosG (w0 := w) w.heap.size rfl (.tmp 11) (.const (.int .i64 1024)) 26 3 5 rfl Tryz.underlying26 Tryz.underlying3 (by kernel_rfl) v 0 zs .i64 1024 rfl rfl HW2.out HB2.out HB2.out.size (by omega) ?_; intro v5 w5 ho5 hb5 _; rw [← HTB.out] at ho5; have HO5 := Aside0.mk ho5; have HB5 := Aside0.mk hb5; clear ho5 hb5)
    go_ret2
    rw [HR.out]
    exact ⟨v5, rfl, HO5.out, HB5.out⟩
end Go.Proofs.YtdijnmcfpbceaaaGreatDoor.X

namespace Go.Proofs.YtdijnmcfpbceaaaGreatDoor.X
open Go.RowKit Go.Proofs.YtdijnmcfpbceaaaGreatDoorW.PrintWords Go.Proofs.YtdijnmcfpbceaaaGreatDoorW.PrintLast Go.Proofs.YtdijnmcfpbceaaaGreatDoorW.PrintMore Go.Proofs.YtdijnmcfpbceaaaGreatDoor.P
set_option linter.unusedVariables false
set_option linter.unusedSimpArgs false
def blkN (n : Nat) : Nat := (n + 511) / 512
theorem pad_len (n : Nat) : n + padN n = 512 * blkN n := by
  unfold padN blkN
  omega
theorem mem_joinL (c x : UInt8) : ∀ ps : List (List UInt8), x ∈ joinL c ps → x = c ∨ ∃ p ∈ ps, x ∈ p
  | [], h => by cases h
  | [p], h => .inr ⟨p, by simp, h⟩
  | p :: q :: r, h => by
    have h : x ∈ p ++ c :: joinL c (q :: r) := h
    rcases List.mem_append.1 h with h | h
    · exact .inr ⟨p, by simp, h⟩
    · rcases List.mem_cons.1 h with h | h
      · exact .inl h
      · rcases mem_joinL c x (q :: r) h with h | ⟨y, hy, h⟩
        · exact .inl h
        · exact .inr ⟨y, List.mem_cons_of_mem _ hy, h⟩
theorem path_no0 {s : List UInt8} (h : pathB s = true) : (0 : UInt8) ∉ s := by
  intro h0
  unfold pathB at h
  rw [Bool.or_eq_true, decide_eq_true_eq] at h
  rcases h with rfl | h
  · cases h0
  · rw [Bool.and_eq_true, Bool.and_eq_true, List.all_eq_true] at h
    rw [← joinL_cutL 47 s] at h0
    rcases mem_joinL 47 0 _ h0 with e | ⟨p, hp, h1⟩
    · exact absurd e (by decide)
    · have h2 := h.1.2 p hp
      unfold partB at h2
      simp only [Bool.and_eq_true, decide_eq_true_eq] at h2
      exact h2.1.1.1.2 h1
theorem cutS_list (s : ByteArray) : (cutS s).data.toList = s.data.toList.take (min s.size 100) := by
  unfold cutS
  rw [ByteArray.data_extract, Array.toList_extract]
  simp [List.extract]
theorem cutS_size (s : ByteArray) : (cutS s).size = min s.size 100 := by
  rw [← data_length, cutS_list, List.length_take, data_length]
  omega
theorem cutS_no0 {s : ByteArray} (h : (0 : UInt8) ∉ s.data.toList) : (0 : UInt8) ∉ (cutS s).data.toList := by
  rw [cutS_list]
  exact fun h1 => h (List.mem_of_mem_take h1)
theorem good_kinds {n : S47} (h : goodN n = true) : pathB n.f0.data.toList = true ∧ n.f2.size ≤ 400 ∧ ((n.f1 = 1 ∧ n.f2.size = 0) ∨ n.f1 = 2 ∨ n.f1 = 3 ∨ (n.f1 = 4 ∧ n.f2.size ≠ 0 ∧ (0 : UInt8) ∉ n.f2.data.toList)) := by
  unfold goodN at h
  rw [Bool.and_eq_true, Bool.and_eq_true, decide_eq_true_eq] at h
  obtain ⟨⟨h1, h2⟩, h3⟩ := h
  refine ⟨h1, h2, ?_⟩
  split at h3
  · rename_i e
    exact .inl ⟨e, of_decide_eq_true h3⟩
  · split at h3
    · rename_i e
      rcases e with e | e
      · exact .inr (.inl e)
      · exact .inr (.inr (.inl e))
    · split at h3
      · rename_i e
        rw [Bool.and_eq_true, decide_eq_true_eq, decide_eq_true_eq] at h3
        exact .inr (.inr (.inr ⟨e, h3.1, h3.2⟩))
      · cases h3
theorem nameN_spec {n : S47} (h : goodN n = true) : (nameN n).size ≠ 0 ∧ (0 : UInt8) ∉ (nameN n).data.toList ∧ (nameN n).size ≤ 200 ∧ (100 < (nameN n).size ↔ 100 < n.f0.size) ∧ (100 < n.f0.size → nameN n = n.f0) := by
  have hp := path_no0 (good_kinds h).1
  have hs := path_small (good_kinds h).1
  unfold nameN
  split
  · rename_i e
    have e1 : (⟨#[46]⟩ : ByteArray).size = 1 := rfl
    rw [e1]
    exact ⟨by omega, by decide, by omega, by omega, by omega⟩
  · rename_i e
    exact ⟨e, hp, hs, Iff.rfl, fun _ => rfl⟩
theorem own_may {n : S47} (h : goodN n = true) : MayR (ownE n).name (ownE n).kind ((ownE n).data.size : Int) (ownE n).link ∧ (ownE n).data.size ≤ 400 := by
  obtain ⟨h1, h2, h3⟩ := good_kinds h
  obtain ⟨g1, g2, g3, _⟩ := nameN_spec h
  have c1 := cutS_size (nameN n)
  have c2 := cutS_no0 g2
  have a1 : (cutS (nameN n)).size ≠ 0 := by omega
  have a2 : (cutS (nameN n)).size ≤ 100 := by omega
  generalize hcn : cutS (nameN n) = cn at *
  have e0 : (⟨#[]⟩ : ByteArray).size = 0 := rfl
  have e1 : (0 : UInt8) ∉ (⟨#[]⟩ : ByteArray).data.toList := by decide
  generalize hem : (⟨#[]⟩ : ByteArray) = em at e0 e1
  have eo : ownE n = if n.f1 = 4 then ⟨cn, n.f1, cutS n.f2, em⟩ else ⟨cn, n.f1, em, n.f2⟩ := by rw [← hem, ← hcn]; rfl
  rw [eo]
  clear eo hem hcn
  by_cases e : n.f1 = 4
  · rw [if_pos e]
    obtain ⟨k2, k3⟩ : n.f2.size ≠ 0 ∧ (0 : UInt8) ∉ n.f2.data.toList := by
      rcases h3 with ⟨k, _⟩ | k | k | ⟨_, k2, k3⟩
      · omega
      · omega
      · omega
      · exact ⟨k2, k3⟩
    have c3 := cutS_size n.f2
    have c4 := cutS_no0 k3
    have b1 : (cutS n.f2).size ≠ 0 := by omega
    have b2 : (cutS n.f2).size ≤ 100 := by omega
    generalize cutS n.f2 = cl at *
    exact ⟨⟨a1, a2, c2, b2, c4, by show 1 ≤ n.f1; omega, by show n.f1 ≤ 5; omega, ⟨fun _ => b1, fun _ => e⟩, .inl (by show (em.size : Int) = 0; omega)⟩, by show em.size ≤ 400; omega⟩
  · rw [if_neg e]
    have k5 : 1 ≤ n.f1 ∧ n.f1 ≤ 5 ∧ ((n.f2.size : Int) = 0 ∨ (n.f1 ≠ 1 ∧ n.f1 ≠ 4)) := by
      rcases h3 with ⟨k, k2⟩ | k | k | ⟨k, _⟩
      · exact ⟨by omega, by omega, .inl (by omega)⟩
      · exact ⟨by omega, by omega, .inr ⟨by omega, by omega⟩⟩
      · exact ⟨by omega, by omega, .inr ⟨by omega, by omega⟩⟩
      · exact absurd k e
    exact ⟨⟨a1, a2, c2, by show em.size ≤ 100; omega, e1, k5.1, k5.2.1, ⟨fun k => absurd k e, fun k => absurd e0 k⟩, k5.2.2⟩, h2⟩
theorem pax_may (n : Nat) : MayR ⟨#[112, 97, 120]⟩ 5 (n : Int) ⟨#[]⟩ :=
  ⟨by decide, by decide, by decide, by decide, by decide, by decide, by decide, by decide, .inr ⟨by decide, by decide⟩⟩
theorem entry_len {e : EntT} (h : MayR e.name e.kind (e.data.size : Int) e.link) (hs : e.data.size ≤ 10000) : (entryB e).length = 512 * (1 + blkN e.data.size) := by
  have h1 := pad_len e.data.size
  unfold entryB
  rw [List.length_append, List.length_append, List.length_replicate, bytesOf_length]
  unfold layR
  rw [if_pos ⟨h, by omega, by rw [Int.toNat_natCast]; omega⟩, layB_length _ _ _ _ h.2.1 h.2.2.2.1]
  omega
theorem recT_size (key value : ByteArray) (h : key.size + value.size ≤ 800000) : key.size + value.size + 4 ≤ (recT key value).size ∧ (recT key value).size ≤ key.size + value.size + 10 := by
  rw [recT_eq, ByteArray.size_append, decT_size, restT_size]
  have h1 := (recM_spec (key.size + value.size + 3) (by omega)).1
  have h2 := recM_gt (key.size + value.size + 3) (by omega)
  omega
def pathS : ByteArray := ⟨#[112, 97, 116, 104]⟩
def linkS : ByteArray := ⟨#[108, 105, 110, 107, 112, 97, 116, 104]⟩
def longN (n : S47) : Bool := decide (100 < n.f0.size) || (decide (n.f1 = 4) && decide (100 < n.f2.size))
def twiceN (n : S47) : Bool := decide (n.f1 = 4) && decide (100 < n.f0.size) && decide (100 < n.f2.size) && decide (512 < (recT pathS n.f0).size + (recT linkS n.f2).size)
def headN (n : S47) : Nat := 1 + if longN n = true then 1 else 0
def blocksN (n : S47) : Nat := (if n.f1 = 4 then 0 else blkN n.f2.size) + (if longN n = true then 1 else 0) + (if twiceN n = true then 1 else 0)
theorem own_data (n : S47) : blkN (ownE n).data.size = if n.f1 = 4 then 0 else blkN n.f2.size := by
  unfold ownE
  split
  · show (0 + 511) / 512 = 0
    rfl
  · rfl
theorem extra_size {n : S47} (h : goodN n = true) : if longN n = true then (extraN n).size ≠ 0 ∧ (extraN n).size ≤ 1024 ∧ blkN (extraN n).size = 1 + (if twiceN n = true then 1 else 0) else (extraN n).size = 0 ∧ twiceN n = false := by
  obtain ⟨h1, h2, h3⟩ := good_kinds h
  obtain ⟨g1, g2, g3, g4, g5⟩ := nameN_spec h
  have hs := path_small h1
  have e0 : (⟨#[]⟩ : ByteArray).size = 0 := rfl
  have e4 : pathS.size = 4 := rfl
  have e8 : linkS.size = 8 := rfl
  have r1 := recT_size pathS (nameN n) (by omega)
  have r2 := recT_size linkS n.f2 (by omega)
  have hx : extraN n = (if 100 < (nameN n).size then recT pathS (nameN n) else ⟨#[]⟩) ++ (if n.f1 = 4 ∧ 100 < n.f2.size then recT linkS n.f2 else ⟨#[]⟩) := rfl
  rw [hx, ByteArray.size_append]
  unfold longN twiceN blkN
  clear hx
  by_cases p : 100 < n.f0.size
  · have e5 := g5 p
    rw [← e5] at p ⊢
    by_cases k : n.f1 = 4
    · by_cases q : 100 < n.f2.size
      · simp only [p, k, q, if_true, and_self, decide_true, Bool.true_and, Bool.and_true, Bool.true_or, decide_eq_true_eq]
        refine ⟨by omega, by omega, ?_⟩
        split <;> omega
      · simp only [p, k, q, if_true, if_false, and_false, decide_true, decide_false, Bool.true_and, Bool.and_true, Bool.true_or, Bool.and_false, Bool.false_and, e0, Bool.false_eq_true]
        refine ⟨by omega, by omega, by omega⟩
    · simp only [p, k, if_true, if_false, false_and, decide_true, decide_false, Bool.true_and, Bool.and_true, Bool.true_or, Bool.and_false, Bool.false_and, e0, Bool.false_eq_true]
      refine ⟨by omega, by omega, by omega⟩
  · have p' : ¬ 100 < (nameN n).size := fun x => p (g4.1 x)
    by_cases k : n.f1 = 4
    · by_cases q : 100 < n.f2.size
      · simp only [p, p', k, q, if_true, if_false, and_self, decide_true, decide_false, Bool.true_and, Bool.and_true, Bool.or_true, Bool.and_false, Bool.false_and, e0, Bool.false_eq_true]
        refine ⟨by omega, by omega, by omega⟩
      · simp only [p, p', k, q, if_true, if_false, and_false, decide_true, decide_false, Bool.true_and, Bool.and_true, Bool.or_false, Bool.and_false, Bool.false_and, e0, Bool.false_eq_true]
        trivial
    · simp only [p, p', k, if_true, if_false, false_and, decide_true, decide_false, Bool.true_and, Bool.and_true, Bool.or_false, Bool.and_false, Bool.false_and, e0, Bool.false_eq_true]
      trivial
theorem ents_len1 {n : S47} (h : goodN n = true) : (entsN n).length = headN n ∧ ((entsN n).flatMap entryB).length = 512 * (headN n + blocksN n) := by
  obtain ⟨m1, m2⟩ := own_may h
  have l1 := entry_len m1 (by omega)
  rw [own_data] at l1
  have hx := extra_size h
  unfold entsN headN blocksN
  by_cases hl : longN n = true
  · rw [if_pos hl] at hx
    obtain ⟨x1, x2, x3⟩ := hx
    have l2 := entry_len (e := ⟨⟨#[112, 97, 120]⟩, 5, ⟨#[]⟩, extraN n⟩) (pax_may _) (by show (extraN n).size ≤ 10000; omega)
    have l2' : (entryB ⟨⟨#[112, 97, 120]⟩, 5, ⟨#[]⟩, extraN n⟩).length = 512 * (1 + blkN (extraN n).size) := l2
    rw [x3] at l2'
    rw [if_neg x1, if_pos hl]
    refine ⟨rfl, ?_⟩
    simp only [List.cons_append, List.nil_append, List.flatMap_cons, List.flatMap_nil, List.append_nil, List.length_append]
    omega
  · rw [if_neg hl] at hx
    obtain ⟨x1, x2⟩ := hx
    rw [if_pos x1, if_neg hl, x2]
    refine ⟨rfl, ?_⟩
    simp only [List.nil_append, List.flatMap_cons, List.flatMap_nil, List.append_nil]
    rw [l1]
    simp only [Bool.false_eq_true, if_false]
    omega
def sumH (t : List S47) : Nat := (t.map headN).sum
def sumK (t : List S47) : Nat := (t.map blocksN).sum
theorem ents_len : ∀ (t : List S47), (∀ n ∈ t, goodN n = true) → (entsT t).length = sumH t ∧ ((entsT t).flatMap entryB).length = 512 * (sumH t + sumK t)
  | [], _ => ⟨rfl, rfl⟩
  | n :: t, h => by
    obtain ⟨a, b⟩ := ents_len1 (h n List.mem_cons_self)
    obtain ⟨c, d⟩ := ents_len t (fun m hm => h m (List.mem_cons_of_mem _ hm))
    simp only [entsT, sumH, sumK] at c d ⊢
    rw [List.flatMap_cons, List.flatMap_append, List.length_append, List.length_append, List.map_cons, List.map_cons, List.sum_cons, List.sum_cons]
    exact ⟨by omega, by omega⟩
theorem treeB_nodes {t : List S47} (h : treeB t = true) : ∀ n ∈ t, goodN n = true := by
  unfold treeB at h
  rw [Bool.and_eq_true] at h
  exact (treeR_good t [] h.2).1
theorem tarB_len {t : List S47} (h : treeB t = true) : (tarB t).length = 512 * (sumH t + sumK t + 2) ∧ (entsT t).length = sumH t := by
  obtain ⟨a, b⟩ := ents_len t (treeB_nodes h)
  unfold tarB
  rw [List.length_append, List.length_replicate]
  exact ⟨by omega, a⟩
end Go.Proofs.YtdijnmcfpbceaaaGreatDoor.X

namespace Go.Proofs.YtdijnmcfpbceaaaGreatDoor.P
open Go.Proofs.YtdijnmcfpbceaaaGreatDoor.X
open Go.RowKit Go.Proofs.YtdijnmcfpbceaaaGreatDoorW.PrintWords Go.Proofs.YtdijnmcfpbceaaaGreatDoorW.PrintLast Go.Proofs.YtdijnmcfpbceaaaGreatDoorW.PrintMore
attribute [local go_sem] min2_int min_two
set_option linter.unusedVariables false
set_option linter.unusedSimpArgs false
def head_field.f (l0 : List Int) : Option (ByteArray) := (strings_Cut.f (strOfNums l0) (⟨#[0]⟩ : ByteArray)).bind fun bt185 => (some bt185.1)
set_option maxHeartbeats 8000000 in
set_option maxRecDepth 100000 in
theorem head_field.calls (A0 : Option Addr) (c0 : Nat) (l0 : List Int) (r : ByteArray) (w : World) (hT : Aside0 (Tabs w)) (hr0 : Kd.C (Kd.int .u8) w A0 l0.length l0) (hc0 : l0.length ≤ c0) (h : head_field.f l0 = some r) :
  Calls Tryz.prog 91 #[.slice A0 l0.length c0] w fun e w' => e = .returned (.string r) ∧ Drawn0 w w' := by
 have HR0 := Aside0.mk hr0
 have HC0 := Aside0.mk hc0
 clear hr0 hc0
 have H : ((strings_Cut.f (strOfNums l0) (⟨#[0]⟩ : ByteArray)).bind fun bt185 => (some bt185.1)) = some r := h
 clear h
 replace H := Option.bind_eq_some_iff.mp H
 obtain ⟨⟨t185, t186, t187⟩, A20, H⟩ := H
 replace H : (some t185) = some r := H
 have A2 := Aside0.mk A20
 clear A20
 obtain rfl := Option.some.inj H
 have hcv3 := Kd.C_string (P := Tryz.prog) (A := A0) (c := c0) Tryz.underlying26 Tryz.underlying5 Tryz.underlying9 HR0.out
 have hcvq4 := C_string_any (P := Tryz.prog) (A := A0) (c := c0) Tryz.underlying26 Tryz.underlying5 Tryz.underlying9 HR0.out
 go_enter Tryz.func91, Tryz.ntmps91
 go_wp2_with (first | ((with_reducible refine gate_callee (f := 94) rfl ?_); refine goesL_ (some 9) rfl rfl Tryz.func94 (by kernel_rfl) rfl #[.string (strOfNums l0), .string (⟨#[0]⟩ : ByteArray)] rfl (by (try simp only [List.map_toArray, List.map_cons, List.map_nil]); first | done | rfl | (simp only [List.length_drop, List.length_take]; rfl)) ?_; (with_reducible refine (strings_Cut.calls (strOfNums l0) (⟨#[0]⟩ : ByteArray) t185 t186 t187 _ ?side1 A2.out).mono ?_); (case side1 => exact ⟨Tabs.drawn hT.out (by repeat (first | exact Drawn0.refl _ | apply Drawn0.step))⟩); rintro e w' ⟨rfl, ⟨nd, rfl⟩⟩; refine ⟨_, rfl, ?_⟩))
 go_ret
 exact ⟨by first | rfl | (simp; done) | (simp [*]; done), by repeat (first | exact Drawn0.refl _ | apply Drawn0.step)⟩
end Go.Proofs.YtdijnmcfpbceaaaGreatDoor.P

namespace Go.Proofs.YtdijnmcfpbceaaaGreatDoor.P
open Go.Proofs.YtdijnmcfpbceaaaGreatDoor.X
open Go.RowKit Go.Proofs.YtdijnmcfpbceaaaGreatDoorW.PrintWords Go.Proofs.YtdijnmcfpbceaaaGreatDoorW.PrintLast Go.Proofs.YtdijnmcfpbceaaaGreatDoorW.PrintMore
attribute [local go_sem] min2_int min_two
set_option linter.unusedVariables false
set_option linter.unusedSimpArgs false
def head_kind.f (a0 : Int) (a1 : ByteArray) : Option (Int) := if a0 = 53 then (some 1) else (if a0 = 50 then (some 4) else (if a0 = 120 then (some 5) else (if a1.toList = ([48, 48, 48, 48, 55, 53, 53] : List UInt8) then (some 3) else (some 2))))
set_option maxHeartbeats 8000000 in
set_option maxRecDepth 100000 in
theorem head_kind.calls (a0 : Int) (a1 : ByteArray) (r : Int) (w : World) (h : head_kind.f a0 a1 = some r) :
  Calls Tryz.prog 92 #[.int .u8 a0, .string a1] w fun e w' => e = .returned (.int .i64 r) ∧ Drawn0 w w' := by
 have H : (if a0 = 53 then (some 1) else (if a0 = 50 then (some 4) else (if a0 = 120 then (some 5) else (if a1.toList = ([48, 48, 48, 48, 55, 53, 53] : List UInt8) then (some 3) else (some 2))))) = some r := h
 clear h
 by_cases c3 : a0 = 53
 ·rw [if_pos c3] at H
  have c3b0 : (a0 == 53) = true := beq_iff_eq.mpr c3
  have c3b1 : (a0 != 53) = false := bne_eq_false_iff_eq.mpr c3
  clear c3
  obtain rfl := Option.some.inj H
  go_enter Tryz.func92, Tryz.ntmps92
  go_wp2
  go_ret
  exact ⟨by first | rfl | (simp; done) | (simp [*]; done), by repeat (first | exact Drawn0.refl _ | apply Drawn0.step)⟩
 ·rw [if_neg c3] at H
  have c3b0 : (a0 == 53) = false := beq_eq_false_iff_ne.mpr c3
  have c3b1 : (a0 != 53) = true := bne_iff_ne.mpr c3
  by_cases c4 : a0 = 50
  ·rw [if_pos c4] at H
   have c4b0 : (a0 == 50) = true := beq_iff_eq.mpr c4
   have c4b1 : (a0 != 50) = false := bne_eq_false_iff_eq.mpr c4
   clear c4
   obtain rfl := Option.some.inj H
   go_enter Tryz.func92, Tryz.ntmps92
   go_wp2
   go_ret
   exact ⟨by first | rfl | (simp; done) | (simp [*]; done), by repeat (first | exact Drawn0.refl _ | apply Drawn0.step)⟩
  ·rw [if_neg c4] at H
   have c4b0 : (a0 == 50) = false := beq_eq_false_iff_ne.mpr c4
   have c4b1 : (a0 != 50) = true := bne_iff_ne.mpr c4
   by_cases c5 : a0 = 120
   ·rw [if_pos c5] at H
    have c5b0 : (a0 == 120) = true := beq_iff_eq.mpr c5
    have c5b1 : (a0 != 120) = false := bne_eq_false_iff_eq.mpr c5
    clear c5
    obtain rfl := Option.some.inj H
    go_enter Tryz.func92, Tryz.ntmps92
    go_wp2
    go_ret
    exact ⟨by first | rfl | (simp; done) | (simp [*]; done), by repeat (first | exact Drawn0.refl _ | apply Drawn0.step)⟩
   ·rw [if_neg c5] at H
    have c5b0 : (a0 == 120) = false := beq_eq_false_iff_ne.mpr c5
    have c5b1 : (a0 != 120) = true := bne_iff_ne.mpr c5
    by_cases c6 : a1.toList = ([48, 48, 48, 48, 55, 53, 53] : List UInt8)
    ·rw [if_pos c6] at H
     have c6b0 : (a1.toList == ([48, 48, 48, 48, 55, 53, 53] : List UInt8)) = true := beq_iff_eq.mpr c6
     have c6b1 : (a1.toList != ([48, 48, 48, 48, 55, 53, 53] : List UInt8)) = false := bne_eq_false_iff_eq.mpr c6
     clear c6
     obtain rfl := Option.some.inj H
     go_enter Tryz.func92, Tryz.ntmps92
     go_wp2
     go_ret
     exact ⟨by first | rfl | (simp; done) | (simp [*]; done), by repeat (first | exact Drawn0.refl _ | apply Drawn0.step)⟩
    ·rw [if_neg c6] at H
     have c6b0 : (a1.toList == ([48, 48, 48, 48, 55, 53, 53] : List UInt8)) = false := beq_eq_false_iff_ne.mpr c6
     have c6b1 : (a1.toList != ([48, 48, 48, 48, 55, 53, 53] : List UInt8)) = true := bne_iff_ne.mpr c6
     obtain rfl := Option.some.inj H
     go_enter Tryz.func92, Tryz.ntmps92
     go_wp2
     go_ret
     exact ⟨by first | rfl | (simp; done) | (simp [*]; done), by repeat (first | exact Drawn0.refl _ | apply Drawn0.step)⟩
end Go.Proofs.YtdijnmcfpbceaaaGreatDoor.P

namespace Go.Proofs.YtdijnmcfpbceaaaGreatDoor.P
open Go.Proofs.YtdijnmcfpbceaaaGreatDoor.X
open Go.RowKit Go.Proofs.YtdijnmcfpbceaaaGreatDoorW.PrintWords Go.Proofs.YtdijnmcfpbceaaaGreatDoorW.PrintLast Go.Proofs.YtdijnmcfpbceaaaGreatDoorW.PrintMore
attribute [local go_sem] min2_int min_two
set_option linter.unusedVariables false
set_option linter.unusedSimpArgs false
def head_Read.f (k : Nat) (l0 : List Int) : Option (ByteArray × Int × Int × ByteArray × Bool) := if (l0.length : Int) = 512 then (if 100 ≤ (l0.length : Int) then ((head_field.f (l0.take 100)).bind fun t189 => (if 157 ≤ 257 then (if 257 ≤ (l0.length : Int) then ((head_field.f ((l0.take 257).drop 157)).bind fun t191 => (if 156 < (l0.length : Int) then (if 100 ≤ 108 then (if 108 ≤ (l0.length : Int) then ((head_field.f ((l0.take 108).drop 100)).bind fun t194 => ((head_kind.f (rd l0 156) t194).bind fun t195 => (if 124 ≤ 136 then (if 136 ≤ (l0.length : Int) then ((head_field.f ((l0.take 136).drop 124)).bind fun t197 => ((head_OfOctal.f k t197).bind fun bt198 => ((head_Lay.f k t189 t195 bt198.1 t191).bind fun bt200 => (if bt200.2 = true then (if (strOfNums bt200.1).toList = (strOfNums l0).toList then (some (t189, t195, bt198.1, t191, true)) else (some ((⟨#[]⟩ : ByteArray), 0, 0, (⟨#[]⟩ : ByteArray), false))) else (some ((⟨#[]⟩ : ByteArray), 0, 0, (⟨#[]⟩ : ByteArray), false)))))) else (none)) else (none)))) else (none)) else (none)) else (none))) else (none)) else (none))) else (none)) else (some ((⟨#[]⟩ : ByteArray), 0, 0, (⟨#[]⟩ : ByteArray), false))
set_option maxHeartbeats 8000000 in
set_option maxRecDepth 100000 in
theorem head_Read.calls (k : Nat) (A0 : Option Addr) (c0 : Nat) (l0 : List Int) (r1 : ByteArray) (r2 : Int) (r3 : Int) (r4 : ByteArray) (r5 : Bool) (w : World) (hT : Aside0 (Tabs w)) (hr0 : Kd.C (Kd.int .u8) w A0 l0.length l0) (hc0 : l0.length ≤ c0) (h : head_Read.f k l0 = some (r1, r2, r3, r4, r5)) :
  Calls Tryz.prog 73 #[.slice A0 l0.length c0] w fun e w' => e = .returned (.tuple #[.string r1, .int .i64 r2, .int .i64 r3, .string r4, .bool r5]) ∧ Below w.heap.size w w' := by
 have HR0 := Aside0.mk hr0
 have HC0 := Aside0.mk hc0
 clear hr0 hc0
 have HB := Aside0.mk (Below.refl w.heap.size w)
 have H : (if (l0.length : Int) = 512 then (if 100 ≤ (l0.length : Int) then ((head_field.f (l0.take 100)).bind fun t189 => (if 157 ≤ 257 then (if 257 ≤ (l0.length : Int) then ((head_field.f ((l0.take 257).drop 157)).bind fun t191 => (if 156 < (l0.length : Int) then (if 100 ≤ 108 then (if 108 ≤ (l0.length : Int) then ((head_field.f ((l0.take 108).drop 100)).bind fun t194 => ((head_kind.f (rd l0 156) t194).bind fun t195 => (if 124 ≤ 136 then (if 136 ≤ (l0.length : Int) then ((head_field.f ((l0.take 136).drop 124)).bind fun t197 => ((head_OfOctal.f k t197).bind fun bt198 => ((head_Lay.f k t189 t195 bt198.1 t191).bind fun bt200 => (if bt200.2 = true then (if (strOfNums bt200.1).toList = (strOfNums l0).toList then (some (t189, t195, bt198.1, t191, true)) else (some ((⟨#[]⟩ : ByteArray), 0, 0, (⟨#[]⟩ : ByteArray), false))) else (some ((⟨#[]⟩ : ByteArray), 0, 0, (⟨#[]⟩ : ByteArray), false)))))) else (none)) else (none)))) else (none)) else (none)) else (none))) else (none)) else (none))) else (none)) else (some ((⟨#[]⟩ : ByteArray), 0, 0, (⟨#[]⟩ : ByteArray), false))) = some (r1, r2, r3, r4, r5) := h
 clear h
 by_cases c2 : (l0.length : Int) = 512
 ·rw [if_pos c2] at H
  have c2b0 : ((l0.length : Int) == 512) = true := beq_iff_eq.mpr c2
  have c2b1 : ((l0.length : Int) != 512) = false := bne_eq_false_iff_eq.mpr c2
  clear c2
  by_cases c3 : 100 ≤ (l0.length : Int)
  ·rw [if_pos c3] at H
   have c3b0 := eq_true c3
   have c3b1 : decide (100 ≤ (l0.length : Int)) = true := decide_eq_true c3
   clear c3
   replace H := Option.bind_eq_some_iff.mp H
   obtain ⟨t189, A40, H⟩ := H
   replace H : (if 157 ≤ 257 then (if 257 ≤ (l0.length : Int) then ((head_field.f ((l0.take 257).drop 157)).bind fun t191 => (if 156 < (l0.length : Int) then (if 100 ≤ 108 then (if 108 ≤ (l0.length : Int) then ((head_field.f ((l0.take 108).drop 100)).bind fun t194 => ((head_kind.f (rd l0 156) t194).bind fun t195 => (if 124 ≤ 136 then (if 136 ≤ (l0.length : Int) then ((head_field.f ((l0.take 136).drop 124)).bind fun t197 => ((head_OfOctal.f k t197).bind fun bt198 => ((head_Lay.f k t189 t195 bt198.1 t191).bind fun bt200 => (if bt200.2 = true then (if (strOfNums bt200.1).toList = (strOfNums l0).toList then (some (t189, t195, bt198.1, t191, true)) else (some ((⟨#[]⟩ : ByteArray), 0, 0, (⟨#[]⟩ : ByteArray), false))) else (some ((⟨#[]⟩ : ByteArray), 0, 0, (⟨#[]⟩ : ByteArray), false)))))) else (none)) else (none)))) else (none)) else (none)) else (none))) else (none)) else (none)) = some (r1, r2, r3, r4, r5) := H
   have A4 := Aside0.mk A40
   clear A40
   by_cases c5 : 157 ≤ 257
   ·rw [if_pos c5] at H
    have c5b0 := eq_true c5
    have c5b1 : decide (157 ≤ 257) = true := decide_eq_true c5
    clear c5
    by_cases c6 : 257 ≤ (l0.length : Int)
    ·rw [if_pos c6] at H
     have c6b0 := eq_true c6
     have c6b1 : decide (257 ≤ (l0.length : Int)) = true := decide_eq_true c6
     clear c6
     replace H := Option.bind_eq_some_iff.mp H
     obtain ⟨t191, A70, H⟩ := H
     replace H : (if 156 < (l0.length : Int) then (if 100 ≤ 108 then (if 108 ≤ (l0.length : Int) then ((head_field.f ((l0.take 108).drop 100)).bind fun t194 => ((head_kind.f (rd l0 156) t194).bind fun t195 => (if 124 ≤ 136 then (if 136 ≤ (l0.length : Int) then ((head_field.f ((l0.take 136).drop 124)).bind fun t197 => ((head_OfOctal.f k t197).bind fun bt198 => ((head_Lay.f k t189 t195 bt198.1 t191).bind fun bt200 => (if bt200.2 = true then (if (strOfNums bt200.1).toList = (strOfNums l0).toList then (some (t189, t195, bt198.1, t191, true)) else (some ((⟨#[]⟩ : ByteArray), 0, 0, (⟨#[]⟩ : ByteArray), false))) else (some ((⟨#[]⟩ : ByteArray), 0, 0, (⟨#[]⟩ : ByteArray), false)))))) else (none)) else (none)))) else (none)) else (none)) else (none)) = some (r1, r2, r3, r4, r5) := H
     have A7 := Aside0.mk A70
     clear A70
     by_cases c8 : 156 < (l0.length : Int)
     ·rw [if_pos c8] at H
      have c8b0 : decide (156 < (l0.length : Int)) = true := decide_eq_true c8
      have c8b1 : decide (156 < l0.length) = true := decide_eq_true (by omega)
      clear c8
      by_cases c9 : 100 ≤ 108
      ·rw [if_pos c9] at H
       have c9b0 := eq_true c9
       have c9b1 : decide (100 ≤ 108) = true := decide_eq_true c9
       clear c9
       by_cases c10 : 108 ≤ (l0.length : Int)
       ·rw [if_pos c10] at H
        have c10b0 := eq_true c10
        have c10b1 : decide (108 ≤ (l0.length : Int)) = true := decide_eq_true c10
        clear c10
        replace H := Option.bind_eq_some_iff.mp H
        obtain ⟨t194, A110, H⟩ := H
        replace H : ((head_kind.f (rd l0 156) t194).bind fun t195 => (if 124 ≤ 136 then (if 136 ≤ (l0.length : Int) then ((head_field.f ((l0.take 136).drop 124)).bind fun t197 => ((head_OfOctal.f k t197).bind fun bt198 => ((head_Lay.f k t189 t195 bt198.1 t191).bind fun bt200 => (if bt200.2 = true then (if (strOfNums bt200.1).toList = (strOfNums l0).toList then (some (t189, t195, bt198.1, t191, true)) else (some ((⟨#[]⟩ : ByteArray), 0, 0, (⟨#[]⟩ : ByteArray), false))) else (some ((⟨#[]⟩ : ByteArray), 0, 0, (⟨#[]⟩ : ByteArray), false)))))) else (none)) else (none))) = some (r1, r2, r3, r4, r5) := H
        have A11 := Aside0.mk A110
        clear A110
        replace H := Option.bind_eq_some_iff.mp H
        obtain ⟨t195, A120, H⟩ := H
        replace H : (if 124 ≤ 136 then (if 136 ≤ (l0.length : Int) then ((head_field.f ((l0.take 136).drop 124)).bind fun t197 => ((head_OfOctal.f k t197).bind fun bt198 => ((head_Lay.f k t189 t195 bt198.1 t191).bind fun bt200 => (if bt200.2 = true then (if (strOfNums bt200.1).toList = (strOfNums l0).toList then (some (t189, t195, bt198.1, t191, true)) else (some ((⟨#[]⟩ : ByteArray), 0, 0, (⟨#[]⟩ : ByteArray), false))) else (some ((⟨#[]⟩ : ByteArray), 0, 0, (⟨#[]⟩ : ByteArray), false)))))) else (none)) else (none)) = some (r1, r2, r3, r4, r5) := H
        have A12 := Aside0.mk A120
        clear A120
        by_cases c13 : 124 ≤ 136
        ·rw [if_pos c13] at H
         have c13b0 := eq_true c13
         have c13b1 : decide (124 ≤ 136) = true := decide_eq_true c13
         clear c13
         by_cases c14 : 136 ≤ (l0.length : Int)
         ·rw [if_pos c14] at H
          have c14b0 := eq_true c14
          have c14b1 : decide (136 ≤ (l0.length : Int)) = true := decide_eq_true c14
          clear c14
          replace H := Option.bind_eq_some_iff.mp H
          obtain ⟨t197, A150, H⟩ := H
          replace H : ((head_OfOctal.f k t197).bind fun bt198 => ((head_Lay.f k t189 t195 bt198.1 t191).bind fun bt200 => (if bt200.2 = true then (if (strOfNums bt200.1).toList = (strOfNums l0).toList then (some (t189, t195, bt198.1, t191, true)) else (some ((⟨#[]⟩ : ByteArray), 0, 0, (⟨#[]⟩ : ByteArray), false))) else (some ((⟨#[]⟩ : ByteArray), 0, 0, (⟨#[]⟩ : ByteArray), false))))) = some (r1, r2, r3, r4, r5) := H
          have A15 := Aside0.mk A150
          clear A150
          replace H := Option.bind_eq_some_iff.mp H
          obtain ⟨⟨t198, t199⟩, A160, H⟩ := H
          replace H : ((head_Lay.f k t189 t195 t198 t191).bind fun bt200 => (if bt200.2 = true then (if (strOfNums bt200.1).toList = (strOfNums l0).toList then (some (t189, t195, t198, t191, true)) else (some ((⟨#[]⟩ : ByteArray), 0, 0, (⟨#[]⟩ : ByteArray), false))) else (some ((⟨#[]⟩ : ByteArray), 0, 0, (⟨#[]⟩ : ByteArray), false)))) = some (r1, r2, r3, r4, r5) := H
          have A16 := Aside0.mk A160
          clear A160
          replace H := Option.bind_eq_some_iff.mp H
          obtain ⟨⟨t200, t201⟩, A170, H⟩ := H
          replace H : (if t201 = true then (if (strOfNums t200).toList = (strOfNums l0).toList then (some (t189, t195, t198, t191, true)) else (some ((⟨#[]⟩ : ByteArray), 0, 0, (⟨#[]⟩ : ByteArray), false))) else (some ((⟨#[]⟩ : ByteArray), 0, 0, (⟨#[]⟩ : ByteArray), false))) = some (r1, r2, r3, r4, r5) := H
          have A17 := Aside0.mk A170
          clear A170
          by_cases c18 : t201 = true
          ·subst c18
           have H1 : (if (strOfNums t200).toList = (strOfNums l0).toList then (some (t189, t195, t198, t191, true)) else (some ((⟨#[]⟩ : ByteArray), 0, 0, (⟨#[]⟩ : ByteArray), false))) = some (r1, r2, r3, r4, r5) := by rw [if_pos rfl] at H; exact H
           clear H
           have H := H1
           clear H1
           by_cases c19 : (strOfNums t200).toList = (strOfNums l0).toList
           ·rw [if_pos c19] at H
            have c19b0 : ((strOfNums t200).toList == (strOfNums l0).toList) = true := beq_iff_eq.mpr c19
            have c19b1 : ((strOfNums t200).toList != (strOfNums l0).toList) = false := bne_eq_false_iff_eq.mpr c19
            clear c19
            simp only [Option.some.injEq, Prod.mk.injEq] at H
            obtain ⟨rfl, rfl, rfl, rfl, rfl⟩ := H
            obtain ⟨i020, hi020, _, hsz20, _⟩ := info_parts info5
            obtain ⟨hcut20, hA20, hC20⟩ := print_take_of (P := Tryz.prog) (Value.int .u8) 0 26 5 .i64 Tryz.underlying26 hi020 hsz20 A0 c0 l0 100 (by omega) (of_decide_eq_true (by first | (with_reducible assumption) | assumption)) HC0.out
            have HR188 := Aside0.mk (Kd.C_of_reads (h1 := fun _ => rfl) (hA20 _ (Kd.reads_of_C HR0.out)))
            have HC188 := Aside0.mk hC20
            clear hA20 hC20 hi020 hsz20
            obtain ⟨i021, hi021, _, hsz21, _⟩ := info_parts info5
            obtain ⟨A21, hcut21, hA21, hC21⟩ := print_mid_of (P := Tryz.prog) (Value.int .u8) 0 26 5 .i64 .i64 Tryz.underlying26 hi021 hsz21 A0 c0 l0 157 257 (by omega) (by first | omega | exact of_decide_eq_true (by first | (with_reducible assumption) | assumption)) (of_decide_eq_true (by first | (with_reducible assumption) | assumption)) HC0.out
            have HR190 := Aside0.mk (Kd.C_of_reads (h1 := fun _ => rfl) (hA21 _ (Kd.reads_of_C HR0.out)))
            have HC190 := Aside0.mk hC21
            clear hA21 hC21 hi021 hsz21
            go_enter Tryz.func73, Tryz.ntmps73
            go_wp2_with (first | (go_at_call 91; (with_reducible refine (head_field.calls _ _ (l0.take 100) t189 _ ?side1 ?side2 ?side3 A4.out).mono ?_); (case side1 => exact ⟨Tabs.below hT.out (by repeat (first | (with_reducible first | exact HB.out | apply below_alloc | apply pw_below_drewN | apply below_drew1) | exact HB.out))⟩); (case side2 => repeat (first | exact HR188.out | (with_reducible refine Kd.C_alloc ?_ _) | (with_reducible refine Kd.C_drewN ?_ _) | (with_reducible refine Kd.C_drew ?_))); (case side3 => exact HC188.out); rintro e w' ⟨rfl, ⟨nd, rfl⟩⟩; (try first | exact ⟨rfl, _, World.drewN_drewN _ _ _⟩ | exact ⟨rfl, _, Eq.trans (World.drewN_drewN _ _ _) (congrArg (World.drewN _) (Nat.add_assoc _ _ _))⟩)) | (go_at_call 91; (with_reducible refine (head_field.calls _ _ ((l0.take 257).drop 157) t191 _ ?side1 ?side2 ?side3 A7.out).mono ?_); (case side1 => exact ⟨Tabs.below hT.out (by repeat (first | (with_reducible first | exact HB.out | apply below_alloc | apply pw_below_drewN | apply below_drew1) | exact HB.out))⟩); (case side2 => repeat (first | exact HR190.out | (with_reducible refine Kd.C_alloc ?_ _) | (with_reducible refine Kd.C_drewN ?_ _) | (with_reducible refine Kd.C_drew ?_))); (case side3 => exact HC190.out); rintro e w' ⟨rfl, ⟨nd, rfl⟩⟩; (try first | exact ⟨rfl, _, World.drewN_drewN _ _ _⟩ | exact ⟨rfl, _, Eq.trans (World.drewN_drewN _ _ _) (congrArg (World.drewN _) (Nat.add_assoc _ _ _))⟩); have p192 : 0 ≤ (156 : Int) := (by omega); have q192 : 156 < (l0.length : Int) := of_decide_eq_true (by first | (with_reducible assumption) | assumption); obtain ⟨ad192, e192, hx192_0⟩ := Kd.at_int HR0.out 156 p192 q192; cases e192; (try simp only [show (156 : Int).toNat = 156 from rfl, Nat.reduceMul, Nat.reduceEqDiff, Go.Addr.add, ↓reduceIte] at hx192_0); have qi192 : (156 < l0.length) = True := eq_true (by omega); (try rw [show ((156 : Int)).toNat = 156 from rfl] at hx192_0); replace p192 := eq_true p192; replace q192 := eq_true q192; obtain ⟨i022, hi022, _, hsz22, _⟩ := info_parts info5; obtain ⟨A22, hcut22, hA22, hC22⟩ := print_mid_of (P := Tryz.prog) (Value.int .u8) 0 26 5 .i64 .i64 Tryz.underlying26 hi022 hsz22 (some ad192) c0 l0 100 108 (by omega) (by first | omega | exact of_decide_eq_true (by first | (with_reducible assumption) | assumption)) (of_decide_eq_true (by first | (with_reducible assumption) | assumption)) HC0.out; have HR193 := Aside0.mk (Kd.C_of_reads (h1 := fun _ => rfl) (hA22 _ (Kd.reads_of_C HR0.out))); have HC193 := Aside0.mk hC22; clear hA22 hC22 hi022 hsz22) | (go_at_call 91; (with_reducible refine (head_field.calls _ _ ((l0.take 108).drop 100) t194 _ ?side1 ?side2 ?side3 A11.out).mono ?_); (case side1 => exact ⟨Tabs.below hT.out (by repeat (first | (with_reducible first | exact HB.out | apply below_alloc | apply pw_below_drewN | apply below_drew1) | exact HB.out))⟩); (case side2 => repeat (first | exact HR193.out | (with_reducible refine Kd.C_alloc ?_ _) | (with_reducible refine Kd.C_drewN ?_ _) | (with_reducible refine Kd.C_drew ?_))); (case side3 => exact HC193.out); rintro e w' ⟨rfl, ⟨nd, rfl⟩⟩; (try first | exact ⟨rfl, _, World.drewN_drewN _ _ _⟩ | exact ⟨rfl, _, Eq.trans (World.drewN_drewN _ _ _) (congrArg (World.drewN _) (Nat.add_assoc _ _ _))⟩)) | (go_at_call 92; (with_reducible refine (head_kind.calls (rd l0 156) t194 t195 _ A12.out).mono ?_); rintro e w' ⟨rfl, ⟨nd, rfl⟩⟩; (try first | exact ⟨rfl, _, World.drewN_drewN _ _ _⟩ | exact ⟨rfl, _, Eq.trans (World.drewN_drewN _ _ _) (congrArg (World.drewN _) (Nat.add_assoc _ _ _))⟩); obtain ⟨i023, hi023, _, hsz23, _⟩ := info_parts info5; obtain ⟨A23, hcut23, hA23, hC23⟩ := print_mid_of (P := Tryz.prog) (Value.int .u8) 0 26 5 .i64 .i64 Tryz.underlying26 hi023 hsz23 (some ad192) c0 l0 124 136 (by omega) (by first | omega | exact of_decide_eq_true (by first | (with_reducible assumption) | assumption)) (of_decide_eq_true (by first | (with_reducible assumption) | assumption)) HC0.out; have HR196 := Aside0.mk (Kd.C_of_reads (h1 := fun _ => rfl) (hA23 _ (Kd.reads_of_C HR0.out))); have HC196 := Aside0.mk hC23; clear hA23 hC23 hi023 hsz23) | (go_at_call 91; (with_reducible refine (head_field.calls _ _ ((l0.take 136).drop 124) t197 _ ?side1 ?side2 ?side3 A15.out).mono ?_); (case side1 => exact ⟨Tabs.below hT.out (by repeat (first | (with_reducible first | exact HB.out | apply below_alloc | apply pw_below_drewN | apply below_drew1) | exact HB.out))⟩); (case side2 => repeat (first | exact HR196.out | (with_reducible refine Kd.C_alloc ?_ _) | (with_reducible refine Kd.C_drewN ?_ _) | (with_reducible refine Kd.C_drew ?_))); (case side3 => exact HC196.out); rintro e w' ⟨rfl, ⟨nd, rfl⟩⟩; (try first | exact ⟨rfl, _, World.drewN_drewN _ _ _⟩ | exact ⟨rfl, _, Eq.trans (World.drewN_drewN _ _ _) (congrArg (World.drewN _) (Nat.add_assoc _ _ _))⟩)) | (go_at_call 93; (with_reducible refine (head_OfOctal.calls k t197 t198 t199 _ A16.out).mono ?_); rintro e w' ⟨rfl, ⟨nd, rfl⟩⟩; (try first | exact ⟨rfl, _, World.drewN_drewN _ _ _⟩ | exact ⟨rfl, _, Eq.trans (World.drewN_drewN _ _ _) (congrArg (World.drewN _) (Nat.add_assoc _ _ _))⟩)) | (go_at_call 79; (with_reducible refine (head_Lay.calls k t189 t195 t198 t191 t200 true _ ?side1 A17.out).mono ?_); (case side1 => exact ⟨Tabs.below hT.out (by repeat (first | (with_reducible first | exact HB.out | apply below_alloc | apply pw_below_drewN | apply below_drew1) | exact HB.out))⟩); rintro e w24 ⟨v202, rfl, ho0, hb⟩; have n0_ := Aside0.mk (Kd.R_lower ho0 (below_size (by repeat (first | (with_reducible first | exact HB.out | apply below_alloc | apply pw_below_drewN | apply below_drew1) | exact HB.out)))); have n1_ := Aside0.mk (below_step (by repeat (first | (with_reducible first | exact HB.out | apply below_alloc | apply pw_below_drewN | apply below_drew1) | exact HB.out)) hb); clear HB; have HO203 := n0_; have HB := n1_; clear n0_ n1_; (try clear hb); (try clear hb2); (try clear hk); (try clear hi); (try clear ho0); have hcv25 := own_string (P := Tryz.prog) Tryz.underlying26 Tryz.underlying5 Tryz.underlying9 (Kd.own_of_R HO203.out); have hcv26 := Kd.C_string (P := Tryz.prog) (A := (some ad192)) (c := c0) Tryz.underlying26 Tryz.underlying5 Tryz.underlying9 (Kd.C_below HR0.out HB.out); have hcvq27 := C_string_any (P := Tryz.prog) (A := (some ad192)) (c := c0) Tryz.underlying26 Tryz.underlying5 Tryz.underlying9 (Kd.C_below HR0.out HB.out)))
            repeat (go_quiet (first | (go_at_call 91; refine calls_of_len (n' := (l0.take 100).length) (by first | rfl | simp) ?_; (with_reducible refine (head_field.calls _ _ (l0.take 100) t189 _ ?side1 ?side2 ?side3 A4.out).mono ?_); (case side1 => exact ⟨Tabs.below hT.out (by repeat (first | (with_reducible first | exact HB.out | apply below_alloc | apply pw_below_drewN | apply below_drew1) | exact HB.out))⟩); (case side2 => repeat (first | exact HR188.out | (with_reducible refine Kd.C_alloc ?_ _) | (with_reducible refine Kd.C_drewN ?_ _) | (with_reducible refine Kd.C_drew ?_))); (case side3 => exact HC188.out); rintro e w' ⟨rfl, ⟨nd, rfl⟩⟩; (try first | exact ⟨rfl, _, World.drewN_drewN _ _ _⟩ | exact ⟨rfl, _, Eq.trans (World.drewN_drewN _ _ _) (congrArg (World.drewN _) (Nat.add_assoc _ _ _))⟩); (try clear A4)) | (go_at_call 91; refine calls_of_len (n' := ((l0.take 257).drop 157).length) (by first | rfl | simp) ?_; (with_reducible refine (head_field.calls _ _ ((l0.take 257).drop 157) t191 _ ?side1 ?side2 ?side3 A7.out).mono ?_); (case side1 => exact ⟨Tabs.below hT.out (by repeat (first | (with_reducible first | exact HB.out | apply below_alloc | apply pw_below_drewN | apply below_drew1) | exact HB.out))⟩); (case side2 => repeat (first | exact HR190.out | (with_reducible refine Kd.C_alloc ?_ _) | (with_reducible refine Kd.C_drewN ?_ _) | (with_reducible refine Kd.C_drew ?_))); (case side3 => exact HC190.out); rintro e w' ⟨rfl, ⟨nd, rfl⟩⟩; (try first | exact ⟨rfl, _, World.drewN_drewN _ _ _⟩ | exact ⟨rfl, _, Eq.trans (World.drewN_drewN _ _ _) (congrArg (World.drewN _) (Nat.add_assoc _ _ _))⟩); have p192 : 0 ≤ (156 : Int) := (by omega); have q192 : 156 < (l0.length : Int) := of_decide_eq_true (by first | (with_reducible assumption) | assumption); obtain ⟨ad192, e192, hx192_0⟩ := Kd.at_int HR0.out 156 p192 q192; cases e192; (try simp only [show (156 : Int).toNat = 156 from rfl, Nat.reduceMul, Nat.reduceEqDiff, Go.Addr.add, ↓reduceIte] at hx192_0); have qi192 : (156 < l0.length) = True := eq_true (by omega); (try rw [show ((156 : Int)).toNat = 156 from rfl] at hx192_0); replace p192 := eq_true p192; replace q192 := eq_true q192; obtain ⟨i022, hi022, _, hsz22, _⟩ := info_parts info5; obtain ⟨A22, hcut22, hA22, hC22⟩ := print_mid_of (P := Tryz.prog) (Value.int .u8) 0 26 5 .i64 .i64 Tryz.underlying26 hi022 hsz22 (some ad192) c0 l0 100 108 (by omega) (by first | omega | exact of_decide_eq_true (by first | (with_reducible assumption) | assumption)) (of_decide_eq_true (by first | (with_reducible assumption) | assumption)) HC0.out; have HR193 := Aside0.mk (Kd.C_of_reads (h1 := fun _ => rfl) (hA22 _ (Kd.reads_of_C HR0.out))); have HC193 := Aside0.mk hC22; clear hA22 hC22 hi022 hsz22; (try clear A7)) | (go_at_call 91; refine calls_of_len (n' := ((l0.take 108).drop 100).length) (by first | rfl | simp) ?_; (with_reducible refine (head_field.calls _ _ ((l0.take 108).drop 100) t194 _ ?side1 ?side2 ?side3 A11.out).mono ?_); (case side1 => exact ⟨Tabs.below hT.out (by repeat (first | (with_reducible first | exact HB.out | apply below_alloc | apply pw_below_drewN | apply below_drew1) | exact HB.out))⟩); (case side2 => repeat (first | exact HR193.out | (with_reducible refine Kd.C_alloc ?_ _) | (with_reducible refine Kd.C_drewN ?_ _) | (with_reducible refine Kd.C_drew ?_))); (case side3 => exact HC193.out); rintro e w' ⟨rfl, ⟨nd, rfl⟩⟩; (try first | exact ⟨rfl, _, World.drewN_drewN _ _ _⟩ | exact ⟨rfl, _, Eq.trans (World.drewN_drewN _ _ _) (congrArg (World.drewN _) (Nat.add_assoc _ _ _))⟩); (try clear A11)) | (go_at_call 92; (with_reducible refine (head_kind.calls (rd l0 156) t194 t195 _ A12.out).mono ?_); rintro e w' ⟨rfl, ⟨nd, rfl⟩⟩; (try first | exact ⟨rfl, _, World.drewN_drewN _ _ _⟩ | exact ⟨rfl, _, Eq.trans (World.drewN_drewN _ _ _) (congrArg (World.drewN _) (Nat.add_assoc _ _ _))⟩); obtain ⟨i023, hi023, _, hsz23, _⟩ := info_parts info5; obtain ⟨A23, hcut23, hA23, hC23⟩ := print_mid_of (P := Tryz.prog) (Value.int .u8) 0 26 5 .i64 .i64 Tryz.underlying26 hi023 hsz23 (some ad192) c0 l0 124 136 (by omega) (by first | omega | exact of_decide_eq_true (by first | (with_reducible assumption) | assumption)) (of_decide_eq_true (by first | (with_reducible assumption) | assumption)) HC0.out; have HR196 := Aside0.mk (Kd.C_of_reads (h1 := fun _ => rfl) (hA23 _ (Kd.reads_of_C HR0.out))); have HC196 := Aside0.mk hC23; clear hA23 hC23 hi023 hsz23; (try clear A12)) | (go_at_call 91; refine calls_of_len (n' := ((l0.take 136).drop 124).length) (by first | rfl | simp) ?_; (with_reducible refine (head_field.calls _ _ ((l0.take 136).drop 124) t197 _ ?side1 ?side2 ?side3 A15.out).mono ?_); (case side1 => exact ⟨Tabs.below hT.out (by repeat (first | (with_reducible first | exact HB.out | apply below_alloc | apply pw_below_drewN | apply below_drew1) | exact HB.out))⟩); (case side2 => repeat (first | exact HR196.out | (with_reducible refine Kd.C_alloc ?_ _) | (with_reducible refine Kd.C_drewN ?_ _) | (with_reducible refine Kd.C_drew ?_))); (case side3 => exact HC196.out); rintro e w' ⟨rfl, ⟨nd, rfl⟩⟩; (try first | exact ⟨rfl, _, World.drewN_drewN _ _ _⟩ | exact ⟨rfl, _, Eq.trans (World.drewN_drewN _ _ _) (congrArg (World.drewN _) (Nat.add_assoc _ _ _))⟩); (try clear A15)) | (go_at_call 93; (with_reducible refine (head_OfOctal.calls k t197 t198 t199 _ A16.out).mono ?_); rintro e w' ⟨rfl, ⟨nd, rfl⟩⟩; (try first | exact ⟨rfl, _, World.drewN_drewN _ _ _⟩ | exact ⟨rfl, _, Eq.trans (World.drewN_drewN _ _ _) (congrArg (World.drewN _) (Nat.add_assoc _ _ _))⟩); (try clear A16)) | (go_at_call 79; (with_reducible refine (head_Lay.calls k t189 t195 t198 t191 t200 true _ ?side1 A17.out).mono ?_); (case side1 => exact ⟨Tabs.below hT.out (by repeat (first | (with_reducible first | exact HB.out | apply below_alloc | apply pw_below_drewN | apply below_drew1) | exact HB.out))⟩); rintro e w24 ⟨v202, rfl, ho0, hb⟩; have n0_ := Aside0.mk (Kd.R_lower ho0 (below_size (by repeat (first | (with_reducible first | exact HB.out | apply below_alloc | apply pw_below_drewN | apply below_drew1) | exact HB.out)))); have n1_ := Aside0.mk (below_step (by repeat (first | (with_reducible first | exact HB.out | apply below_alloc | apply pw_below_drewN | apply below_drew1) | exact HB.out)) hb); clear HB; have HO203 := n0_; have HB := n1_; clear n0_ n1_; (try clear hb); (try clear hb2); (try clear hk); (try clear hi); (try clear ho0); have hcv25 := own_string (P := Tryz.prog) Tryz.underlying26 Tryz.underlying5 Tryz.underlying9 (Kd.own_of_R HO203.out); have hcv26 := Kd.C_string (P := Tryz.prog) (A := (some ad192)) (c := c0) Tryz.underlying26 Tryz.underlying5 Tryz.underlying9 (Kd.C_below HR0.out HB.out); have hcvq27 := C_string_any (P := Tryz.prog) (A := (some ad192)) (c := c0) Tryz.underlying26 Tryz.underlying5 Tryz.underlying9 (Kd.C_below HR0.out HB.out); (try clear A17))); try go_wp2_with (first | (go_at_call 91; refine calls_of_len (n' := (l0.take 100).length) (by first | rfl | simp) ?_; (with_reducible refine (head_field.calls _ _ (l0.take 100) t189 _ ?side1 ?side2 ?side3 A4.out).mono ?_); (case side1 => exact ⟨Tabs.below hT.out (by repeat (first | (with_reducible first | exact HB.out | apply below_alloc | apply pw_below_drewN | apply below_drew1) | exact HB.out))⟩); (case side2 => repeat (first | exact HR188.out | (with_reducible refine Kd.C_alloc ?_ _) | (with_reducible refine Kd.C_drewN ?_ _) | (with_reducible refine Kd.C_drew ?_))); (case side3 => exact HC188.out); rintro e w' ⟨rfl, ⟨nd, rfl⟩⟩; (try first | exact ⟨rfl, _, World.drewN_drewN _ _ _⟩ | exact ⟨rfl, _, Eq.trans (World.drewN_drewN _ _ _) (congrArg (World.drewN _) (Nat.add_assoc _ _ _))⟩); (try clear A4)) | (go_at_call 91; refine calls_of_len (n' := ((l0.take 257).drop 157).length) (by first | rfl | simp) ?_; (with_reducible refine (head_field.calls _ _ ((l0.take 257).drop 157) t191 _ ?side1 ?side2 ?side3 A7.out).mono ?_); (case side1 => exact ⟨Tabs.below hT.out (by repeat (first | (with_reducible first | exact HB.out | apply below_alloc | apply pw_below_drewN | apply below_drew1) | exact HB.out))⟩); (case side2 => repeat (first | exact HR190.out | (with_reducible refine Kd.C_alloc ?_ _) | (with_reducible refine Kd.C_drewN ?_ _) | (with_reducible refine Kd.C_drew ?_))); (case side3 => exact HC190.out); rintro e w' ⟨rfl, ⟨nd, rfl⟩⟩; (try first | exact ⟨rfl, _, World.drewN_drewN _ _ _⟩ | exact ⟨rfl, _, Eq.trans (World.drewN_drewN _ _ _) (congrArg (World.drewN _) (Nat.add_assoc _ _ _))⟩); have p192 : 0 ≤ (156 : Int) := (by omega); have q192 : 156 < (l0.length : Int) := of_decide_eq_true (by first | (with_reducible assumption) | assumption); obtain ⟨ad192, e192, hx192_0⟩ := Kd.at_int HR0.out 156 p192 q192; cases e192; (try simp only [show (156 : Int).toNat = 156 from rfl, Nat.reduceMul, Nat.reduceEqDiff, Go.Addr.add, ↓reduceIte] at hx192_0); have qi192 : (156 < l0.length) = True := eq_true (by omega); (try rw [show ((156 : Int)).toNat = 156 from rfl] at hx192_0); replace p192 := eq_true p192; replace q192 := eq_true q192; obtain ⟨i022, hi022, _, hsz22, _⟩ := info_parts info5; obtain ⟨A22, hcut22, hA22, hC22⟩ := print_mid_of (P := Tryz.prog) (Value.int .u8) 0 26 5 .i64 .i64 Tryz.underlying26 hi022 hsz22 (some ad192) c0 l0 100 108 (by omega) (by first | omega | exact of_decide_eq_true (by first | (with_reducible assumption) | assumption)) (of_decide_eq_true (by first | (with_reducible assumption) | assumption)) HC0.out; have HR193 := Aside0.mk (Kd.C_of_reads (h1 := fun _ => rfl) (hA22 _ (Kd.reads_of_C HR0.out))); have HC193 := Aside0.mk hC22; clear hA22 hC22 hi022 hsz22; (try clear A7)) | (go_at_call 91; refine calls_of_len (n' := ((l0.take 108).drop 100).length) (by first | rfl | simp) ?_; (with_reducible refine (head_field.calls _ _ ((l0.take 108).drop 100) t194 _ ?side1 ?side2 ?side3 A11.out).mono ?_); (case side1 => exact ⟨Tabs.below hT.out (by repeat (first | (with_reducible first | exact HB.out | apply below_alloc | apply pw_below_drewN | apply below_drew1) | exact HB.out))⟩); (case side2 => repeat (first | exact HR193.out | (with_reducible refine Kd.C_alloc ?_ _) | (with_reducible refine Kd.C_drewN ?_ _) | (with_reducible refine Kd.C_drew ?_))); (case side3 => exact HC193.out); rintro e w' ⟨rfl, ⟨nd, rfl⟩⟩; (try first | exact ⟨rfl, _, World.drewN_drewN _ _ _⟩ | exact ⟨rfl, _, Eq.trans (World.drewN_drewN _ _ _) (congrArg (World.drewN _) (Nat.add_assoc _ _ _))⟩); (try clear A11)) | (go_at_call 92; (with_reducible refine (head_kind.calls (rd l0 156) t194 t195 _ A12.out).mono ?_); rintro e w' ⟨rfl, ⟨nd, rfl⟩⟩; (try first | exact ⟨rfl, _, World.drewN_drewN _ _ _⟩ | exact ⟨rfl, _, Eq.trans (World.drewN_drewN _ _ _) (congrArg (World.drewN _) (Nat.add_assoc _ _ _))⟩); obtain ⟨i023, hi023, _, hsz23, _⟩ := info_parts info5; obtain ⟨A23, hcut23, hA23, hC23⟩ := print_mid_of (P := Tryz.prog) (Value.int .u8) 0 26 5 .i64 .i64 Tryz.underlying26 hi023 hsz23 (some ad192) c0 l0 124 136 (by omega) (by first | omega | exact of_decide_eq_true (by first | (with_reducible assumption) | assumption)) (of_decide_eq_true (by first | (with_reducible assumption) | assumption)) HC0.out; have HR196 := Aside0.mk (Kd.C_of_reads (h1 := fun _ => rfl) (hA23 _ (Kd.reads_of_C HR0.out))); have HC196 := Aside0.mk hC23; clear hA23 hC23 hi023 hsz23; (try clear A12)) | (go_at_call 91; refine calls_of_len (n' := ((l0.take 136).drop 124).length) (by first | rfl | simp) ?_; (with_reducible refine (head_field.calls _ _ ((l0.take 136).drop 124) t197 _ ?side1 ?side2 ?side3 A15.out).mono ?_); (case side1 => exact ⟨Tabs.below hT.out (by repeat (first | (with_reducible first | exact HB.out | apply below_alloc | apply pw_below_drewN | apply below_drew1) | exact HB.out))⟩); (case side2 => repeat (first | exact HR196.out | (with_reducible refine Kd.C_alloc ?_ _) | (with_reducible refine Kd.C_drewN ?_ _) | (with_reducible refine Kd.C_drew ?_))); (case side3 => exact HC196.out); rintro e w' ⟨rfl, ⟨nd, rfl⟩⟩; (try first | exact ⟨rfl, _, World.drewN_drewN _ _ _⟩ | exact ⟨rfl, _, Eq.trans (World.drewN_drewN _ _ _) (congrArg (World.drewN _) (Nat.add_assoc _ _ _))⟩); (try clear A15)) | (go_at_call 93; (with_reducible refine (head_OfOctal.calls k t197 t198 t199 _ A16.out).mono ?_); rintro e w' ⟨rfl, ⟨nd, rfl⟩⟩; (try first | exact ⟨rfl, _, World.drewN_drewN _ _ _⟩ | exact ⟨rfl, _, Eq.trans (World.drewN_drewN _ _ _) (congrArg (World.drewN _) (Nat.add_assoc _ _ _))⟩); (try clear A16)) | (go_at_call 79; (with_reducible refine (head_Lay.calls k t189 t195 t198 t191 t200 true _ ?side1 A17.out).mono ?_); (case side1 => exact ⟨Tabs.below hT.out (by repeat (first | (with_reducible first | exact HB.out | apply below_alloc | apply pw_below_drewN | apply below_drew1) | exact HB.out))⟩); rintro e w24 ⟨v202, rfl, ho0, hb⟩; have n0_ := Aside0.mk (Kd.R_lower ho0 (below_size (by repeat (first | (with_reducible first | exact HB.out | apply below_alloc | apply pw_below_drewN | apply below_drew1) | exact HB.out)))); have n1_ := Aside0.mk (below_step (by repeat (first | (with_reducible first | exact HB.out | apply below_alloc | apply pw_below_drewN | apply below_drew1) | exact HB.out)) hb); clear HB; have HO203 := n0_; have HB := n1_; clear n0_ n1_; (try clear hb); (try clear hb2); (try clear hk); (try clear hi); (try clear ho0); have hcv25 := own_string (P := Tryz.prog) Tryz.underlying26 Tryz.underlying5 Tryz.underlying9 (Kd.own_of_R HO203.out); have hcv26 := Kd.C_string (P := Tryz.prog) (A := (some ad192)) (c := c0) Tryz.underlying26 Tryz.underlying5 Tryz.underlying9 (Kd.C_below HR0.out HB.out); have hcvq27 := C_string_any (P := Tryz.prog) (A := (some ad192)) (c := c0) Tryz.underlying26 Tryz.underlying5 Tryz.underlying9 (Kd.C_below HR0.out HB.out); (try clear A17))))
            refine bodyPost_ret (results_list (rs := [.tmp 2, .tmp 3, .tmp 4, .tmp 5, .tmp 6]) rfl (by simp) (.tmp (.tmp (.tmp (.tmp (.tmp .nil)))))) rfl ?_
            exact ⟨by first | rfl | (simp [errW_none, errW_some] <;> rfl) | (simp [*, errW_none, errW_some] <;> rfl), by repeat (first | (with_reducible first | exact HB.out | apply below_alloc | apply pw_below_drewN | apply below_drew1) | exact HB.out)⟩
           ·rw [if_neg c19] at H
            have c19b0 : ((strOfNums t200).toList == (strOfNums l0).toList) = false := beq_eq_false_iff_ne.mpr c19
            have c19b1 : ((strOfNums t200).toList != (strOfNums l0).toList) = true := bne_iff_ne.mpr c19
            simp only [Option.some.injEq, Prod.mk.injEq] at H
            obtain ⟨rfl, rfl, rfl, rfl, rfl⟩ := H
            obtain ⟨i028, hi028, _, hsz28, _⟩ := info_parts info5
            obtain ⟨hcut28, hA28, hC28⟩ := print_take_of (P := Tryz.prog) (Value.int .u8) 0 26 5 .i64 Tryz.underlying26 hi028 hsz28 A0 c0 l0 100 (by omega) (of_decide_eq_true (by first | (with_reducible assumption) | assumption)) HC0.out
            have HR188 := Aside0.mk (Kd.C_of_reads (h1 := fun _ => rfl) (hA28 _ (Kd.reads_of_C HR0.out)))
            have HC188 := Aside0.mk hC28
            clear hA28 hC28 hi028 hsz28
            obtain ⟨i029, hi029, _, hsz29, _⟩ := info_parts info5
            obtain ⟨A29, hcut29, hA29, hC29⟩ := print_mid_of (P := Tryz.prog) (Value.int .u8) 0 26 5 .i64 .i64 Tryz.underlying26 hi029 hsz29 A0 c0 l0 157 257 (by omega) (by first | omega | exact of_decide_eq_true (by first | (with_reducible assumption) | assumption)) (of_decide_eq_true (by first | (with_reducible assumption) | assumption)) HC0.out
            have HR190 := Aside0.mk (Kd.C_of_reads (h1 := fun _ => rfl) (hA29 _ (Kd.reads_of_C HR0.out)))
            have HC190 := Aside0.mk hC29
            clear hA29 hC29 hi029 hsz29
            go_enter Tryz.func73, Tryz.ntmps73
            go_wp2_with (first | (go_at_call 91; (with_reducible refine (head_field.calls _ _ (l0.take 100) t189 _ ?side1 ?side2 ?side3 A4.out).mono ?_); (case side1 => exact ⟨Tabs.below hT.out (by repeat (first | (with_reducible first | exact HB.out | apply below_alloc | apply pw_below_drewN | apply below_drew1) | exact HB.out))⟩); (case side2 => repeat (first | exact HR188.out | (with_reducible refine Kd.C_alloc ?_ _) | (with_reducible refine Kd.C_drewN ?_ _) | (with_reducible refine Kd.C_drew ?_))); (case side3 => exact HC188.out); rintro e w' ⟨rfl, ⟨nd, rfl⟩⟩; (try first | exact ⟨rfl, _, World.drewN_drewN _ _ _⟩ | exact ⟨rfl, _, Eq.trans (World.drewN_drewN _ _ _) (congrArg (World.drewN _) (Nat.add_assoc _ _ _))⟩)) | (go_at_call 91; (with_reducible refine (head_field.calls _ _ ((l0.take 257).drop 157) t191 _ ?side1 ?side2 ?side3 A7.out).mono ?_); (case side1 => exact ⟨Tabs.below hT.out (by repeat (first | (with_reducible first | exact HB.out | apply below_alloc | apply pw_below_drewN | apply below_drew1) | exact HB.out))⟩); (case side2 => repeat (first | exact HR190.out | (with_reducible refine Kd.C_alloc ?_ _) | (with_reducible refine Kd.C_drewN ?_ _) | (with_reducible refine Kd.C_drew ?_))); (case side3 => exact HC190.out); rintro e w' ⟨rfl, ⟨nd, rfl⟩⟩; (try first | exact ⟨rfl, _, World.drewN_drewN _ _ _⟩ | exact ⟨rfl, _, Eq.trans (World.drewN_drewN _ _ _) (congrArg (World.drewN _) (Nat.add_assoc _ _ _))⟩); have p192 : 0 ≤ (156 : Int) := (by omega); have q192 : 156 < (l0.length : Int) := of_decide_eq_true (by first | (with_reducible assumption) | assumption); obtain ⟨ad192, e192, hx192_0⟩ := Kd.at_int HR0.out 156 p192 q192; cases e192; (try simp only [show (156 : Int).toNat = 156 from rfl, Nat.reduceMul, Nat.reduceEqDiff, Go.Addr.add, ↓reduceIte] at hx192_0); have qi192 : (156 < l0.length) = True := eq_true (by omega); (try rw [show ((156 : Int)).toNat = 156 from rfl] at hx192_0); replace p192 := eq_true p192; replace q192 := eq_true q192; obtain ⟨i030, hi030, _, hsz30, _⟩ := info_parts info5; obtain ⟨A30, hcut30, hA30, hC30⟩ := print_mid_of (P := Tryz.prog) (Value.int .u8) 0 26 5 .i64 .i64 Tryz.underlying26 hi030 hsz30 (some ad192) c0 l0 100 108 (by omega) (by first | omega | exact of_decide_eq_true (by first | (with_reducible assumption) | assumption)) (of_decide_eq_true (by first | (with_reducible assumption) | assumption)) HC0.out; have HR193 := Aside0.mk (Kd.C_of_reads (h1 := fun _ => rfl) (hA30 _ (Kd.reads_of_C HR0.out))); have HC193 := Aside0.mk hC30; clear hA30 hC30 hi030 hsz30) | (go_at_call 91; (with_reducible refine (head_field.calls _ _ ((l0.take 108).drop 100) t194 _ ?side1 ?side2 ?side3 A11.out).mono ?_); (case side1 => exact ⟨Tabs.below hT.out (by repeat (first | (with_reducible first | exact HB.out | apply below_alloc | apply pw_below_drewN | apply below_drew1) | exact HB.out))⟩); (case side2 => repeat (first | exact HR193.out | (with_reducible refine Kd.C_alloc ?_ _) | (with_reducible refine Kd.C_drewN ?_ _) | (with_reducible refine Kd.C_drew ?_))); (case side3 => exact HC193.out); rintro e w' ⟨rfl, ⟨nd, rfl⟩⟩; (try first | exact ⟨rfl, _, World.drewN_drewN _ _ _⟩ | exact ⟨rfl, _, Eq.trans (World.drewN_drewN _ _ _) (congrArg (World.drewN _) (Nat.add_assoc _ _ _))⟩)) | (go_at_call 92; (with_reducible refine (head_kind.calls (rd l0 156) t194 t195 _ A12.out).mono ?_); rintro e w' ⟨rfl, ⟨nd, rfl⟩⟩; (try first | exact ⟨rfl, _, World.drewN_drewN _ _ _⟩ | exact ⟨rfl, _, Eq.trans (World.drewN_drewN _ _ _) (congrArg (World.drewN _) (Nat.add_assoc _ _ _))⟩); obtain ⟨i031, hi031, _, hsz31, _⟩ := info_parts info5; obtain ⟨A31, hcut31, hA31, hC31⟩ := print_mid_of (P := Tryz.prog) (Value.int .u8) 0 26 5 .i64 .i64 Tryz.underlying26 hi031 hsz31 (some ad192) c0 l0 124 136 (by omega) (by first | omega | exact of_decide_eq_true (by first | (with_reducible assumption) | assumption)) (of_decide_eq_true (by first | (with_reducible assumption) | assumption)) HC0.out; have HR196 := Aside0.mk (Kd.C_of_reads (h1 := fun _ => rfl) (hA31 _ (Kd.reads_of_C HR0.out))); have HC196 := Aside0.mk hC31; clear hA31 hC31 hi031 hsz31) | (go_at_call 91; (with_reducible refine (head_field.calls _ _ ((l0.take 136).drop 124) t197 _ ?side1 ?side2 ?side3 A15.out).mono ?_); (case side1 => exact ⟨Tabs.below hT.out (by repeat (first | (with_reducible first | exact HB.out | apply below_alloc | apply pw_below_drewN | apply below_drew1) | exact HB.out))⟩); (case side2 => repeat (first | exact HR196.out | (with_reducible refine Kd.C_alloc ?_ _) | (with_reducible refine Kd.C_drewN ?_ _) | (with_reducible refine Kd.C_drew ?_))); (case side3 => exact HC196.out); rintro e w' ⟨rfl, ⟨nd, rfl⟩⟩; (try first | exact ⟨rfl, _, World.drewN_drewN _ _ _⟩ | exact ⟨rfl, _, Eq.trans (World.drewN_drewN _ _ _) (congrArg (World.drewN _) (Nat.add_assoc _ _ _))⟩)) | (go_at_call 93; (with_reducible refine (head_OfOctal.calls k t197 t198 t199 _ A16.out).mono ?_); rintro e w' ⟨rfl, ⟨nd, rfl⟩⟩; (try first | exact ⟨rfl, _, World.drewN_drewN _ _ _⟩ | exact ⟨rfl, _, Eq.trans (World.drewN_drewN _ _ _) (congrArg (World.drewN _) (Nat.add_assoc _ _ _))⟩)) | (go_at_call 79; (with_reducible refine (head_Lay.calls k t189 t195 t198 t191 t200 true _ ?side1 A17.out).mono ?_); (case side1 => exact ⟨Tabs.below hT.out (by repeat (first | (with_reducible first | exact HB.out | apply below_alloc | apply pw_below_drewN | apply below_drew1) | exact HB.out))⟩); rintro e w32 ⟨v202, rfl, ho0, hb⟩; have n0_ := Aside0.mk (Kd.R_lower ho0 (below_size (by repeat (first | (with_reducible first | exact HB.out | apply below_alloc | apply pw_below_drewN | apply below_drew1) | exact HB.out)))); have n1_ := Aside0.mk (below_step (by repeat (first | (with_reducible first | exact HB.out | apply below_alloc | apply pw_below_drewN | apply below_drew1) | exact HB.out)) hb); clear HB; have HO203 := n0_; have HB := n1_; clear n0_ n1_; (try clear hb); (try clear hb2); (try clear hk); (try clear hi); (try clear ho0); have hcv33 := own_string (P := Tryz.prog) Tryz.underlying26 Tryz.underlying5 Tryz.underlying9 (Kd.own_of_R HO203.out); have hcv34 := Kd.C_string (P := Tryz.prog) (A := (some ad192)) (c := c0) Tryz.underlying26 Tryz.underlying5 Tryz.underlying9 (Kd.C_below HR0.out HB.out); have hcvq35 := C_string_any (P := Tryz.prog) (A := (some ad192)) (c := c0) Tryz.underlying26 Tryz.underlying5 Tryz.underlying9 (Kd.C_below HR0.out HB.out)))
            repeat (go_quiet (first | (go_at_call 91; refine calls_of_len (n' := (l0.take 100).length) (by first | rfl | simp) ?_; (with_reducible refine (head_field.calls _ _ (l0.take 100) t189 _ ?side1 ?side2 ?side3 A4.out).mono ?_); (case side1 => exact ⟨Tabs.below hT.out (by repeat (first | (with_reducible first | exact HB.out | apply below_alloc | apply pw_below_drewN | apply below_drew1) | exact HB.out))⟩); (case side2 => repeat (first | exact HR188.out | (with_reducible refine Kd.C_alloc ?_ _) | (with_reducible refine Kd.C_drewN ?_ _) | (with_reducible refine Kd.C_drew ?_))); (case side3 => exact HC188.out); rintro e w' ⟨rfl, ⟨nd, rfl⟩⟩; (try first | exact ⟨rfl, _, World.drewN_drewN _ _ _⟩ | exact ⟨rfl, _, Eq.trans (World.drewN_drewN _ _ _) (congrArg (World.drewN _) (Nat.add_assoc _ _ _))⟩); (try clear A4)) | (go_at_call 91; refine calls_of_len (n' := ((l0.take 257).drop 157).length) (by first | rfl | simp) ?_; (with_reducible refine (head_field.calls _ _ ((l0.take 257).drop 157) t191 _ ?side1 ?side2 ?side3 A7.out).mono ?_); (case side1 => exact ⟨Tabs.below hT.out (by repeat (first | (with_reducible first | exact HB.out | apply below_alloc | apply pw_below_drewN | apply below_drew1) | exact HB.out))⟩); (case side2 => repeat (first | exact HR190.out | (with_reducible refine Kd.C_alloc ?_ _) | (with_reducible refine Kd.C_drewN ?_ _) | (with_reducible refine Kd.C_drew ?_))); (case side3 => exact HC190.out); rintro e w' ⟨rfl, ⟨nd, rfl⟩⟩; (try first | exact ⟨rfl, _, World.drewN_drewN _ _ _⟩ | exact ⟨rfl, _, Eq.trans (World.drewN_drewN _ _ _) (congrArg (World.drewN _) (Nat.add_assoc _ _ _))⟩); have p192 : 0 ≤ (156 : Int) := (by omega); have q192 : 156 < (l0.length : Int) := of_decide_eq_true (by first | (with_reducible assumption) | assumption); obtain ⟨ad192, e192, hx192_0⟩ := Kd.at_int HR0.out 156 p192 q192; cases e192; (try simp only [show (156 : Int).toNat = 156 from rfl, Nat.reduceMul, Nat.reduceEqDiff, Go.Addr.add, ↓reduceIte] at hx192_0); have qi192 : (156 < l0.length) = True := eq_true (by omega); (try rw [show ((156 : Int)).toNat = 156 from rfl] at hx192_0); replace p192 := eq_true p192; replace q192 := eq_true q192; obtain ⟨i030, hi030, _, hsz30, _⟩ := info_parts info5; obtain ⟨A30, hcut30, hA30, hC30⟩ := print_mid_of (P := Tryz.prog) (Value.int .u8) 0 26 5 .i64 .i64 Tryz.underlying26 hi030 hsz30 (some ad192) c0 l0 100 108 (by omega) (by first | omega | exact of_decide_eq_true (by first | (with_reducible assumption) | assumption)) (of_decide_eq_true (by first | (with_reducible assumption) | assumption)) HC0.out; have HR193 := Aside0.mk (Kd.C_of_reads (h1 := fun _ => rfl) (hA30 _ (Kd.reads_of_C HR0.out))); have HC193 := Aside0.mk hC30; clear hA30 hC30 hi030 hsz30; (try clear A7)) | (go_at_call 91; refine calls_of_len (n' := ((l0.take 108).drop 100).length) (by first | rfl | simp) ?_; (with_reducible refine (head_field.calls _ _ ((l0.take 108).drop 100) t194 _ ?side1 ?side2 ?side3 A11.out).mono ?_); (case side1 => exact ⟨Tabs.below hT.out (by repeat (first | (with_reducible first | exact HB.out | apply below_alloc | apply pw_below_drewN | apply below_drew1) | exact HB.out))⟩); (case side2 => repeat (first | exact HR193.out | (with_reducible refine Kd.C_alloc ?_ _) | (with_reducible refine Kd.C_drewN ?_ _) | (with_reducible refine Kd.C_drew ?_))); (case side3 => exact HC193.out); rintro e w' ⟨rfl, ⟨nd, rfl⟩⟩; (try first | exact ⟨rfl, _, World.drewN_drewN _ _ _⟩ | exact ⟨rfl, _, Eq.trans (World.drewN_drewN _ _ _) (congrArg (World.drewN _) (Nat.add_assoc _ _ _))⟩); (try clear A11)) | (go_at_call 92; (with_reducible refine (head_kind.calls (rd l0 156) t194 t195 _ A12.out).mono ?_); rintro e w' ⟨rfl, ⟨nd, rfl⟩⟩; (try first | exact ⟨rfl, _, World.drewN_drewN _ _ _⟩ | exact ⟨rfl, _, Eq.trans (World.drewN_drewN _ _ _) (congrArg (World.drewN _) (Nat.add_assoc _ _ _))⟩); obtain ⟨i031, hi031, _, hsz31, _⟩ := info_parts info5; obtain ⟨A31, hcut31, hA31, hC31⟩ := print_mid_of (P := Tryz.prog) (Value.int .u8) 0 26 5 .i64 .i64 Tryz.underlying26 hi031 hsz31 (some ad192) c0 l0 124 136 (by omega) (by first | omega | exact of_decide_eq_true (by first | (with_reducible assumption) | assumption)) (of_decide_eq_true (by first | (with_reducible assumption) | assumption)) HC0.out; have HR196 := Aside0.mk (Kd.C_of_reads (h1 := fun _ => rfl) (hA31 _ (Kd.reads_of_C HR0.out))); have HC196 := Aside0.mk hC31; clear hA31 hC31 hi031 hsz31; (try clear A12)) | (go_at_call 91; refine calls_of_len (n' := ((l0.take 136).drop 124).length) (by first | rfl | simp) ?_; (with_reducible refine (head_field.calls _ _ ((l0.take 136).drop 124) t197 _ ?side1 ?side2 ?side3 A15.out).mono ?_); (case side1 => exact ⟨Tabs.below hT.out (by repeat (first | (with_reducible first | exact HB.out | apply below_alloc | apply pw_below_drewN | apply below_drew1) | exact HB.out))⟩); (case side2 => repeat (first | exact HR196.out | (with_reducible refine Kd.C_alloc ?_ _) | (with_reducible refine Kd.C_drewN ?_ _) | (with_reducible refine Kd.C_drew ?_))); (case side3 => exact HC196.out); rintro e w' ⟨rfl, ⟨nd, rfl⟩⟩; (try first | exact ⟨rfl, _, World.drewN_drewN _ _ _⟩ | exact ⟨rfl, _, Eq.trans (World.drewN_drewN _ _ _) (congrArg (World.drewN _) (Nat.add_assoc _ _ _))⟩); (try clear A15)) | (go_at_call 93; (with_reducible refine (head_OfOctal.calls k t197 t198 t199 _ A16.out).mono ?_); rintro e w' ⟨rfl, ⟨nd, rfl⟩⟩; (try first | exact ⟨rfl, _, World.drewN_drewN _ _ _⟩ | exact ⟨rfl, _, Eq.trans (World.drewN_drewN _ _ _) (congrArg (World.drewN _) (Nat.add_assoc _ _ _))⟩); (try clear A16)) | (go_at_call 79; (with_reducible refine (head_Lay.calls k t189 t195 t198 t191 t200 true _ ?side1 A17.out).mono ?_); (case side1 => exact ⟨Tabs.below hT.out (by repeat (first | (with_reducible first | exact HB.out | apply below_alloc | apply pw_below_drewN | apply below_drew1) | exact HB.out))⟩); rintro e w32 ⟨v202, rfl, ho0, hb⟩; have n0_ := Aside0.mk (Kd.R_lower ho0 (below_size (by repeat (first | (with_reducible first | exact HB.out | apply below_alloc | apply pw_below_drewN | apply below_drew1) | exact HB.out)))); have n1_ := Aside0.mk (below_step (by repeat (first | (with_reducible first | exact HB.out | apply below_alloc | apply pw_below_drewN | apply below_drew1) | exact HB.out)) hb); clear HB; have HO203 := n0_; have HB := n1_; clear n0_ n1_; (try clear hb); (try clear hb2); (try clear hk); (try clear hi); (try clear ho0); have hcv33 := own_string (P := Tryz.prog) Tryz.underlying26 Tryz.underlying5 Tryz.underlying9 (Kd.own_of_R HO203.out); have hcv34 := Kd.C_string (P := Tryz.prog) (A := (some ad192)) (c := c0) Tryz.underlying26 Tryz.underlying5 Tryz.underlying9 (Kd.C_below HR0.out HB.out); have hcvq35 := C_string_any (P := Tryz.prog) (A := (some ad192)) (c := c0) Tryz.underlying26 Tryz.underlying5 Tryz.underlying9 (Kd.C_below HR0.out HB.out); (try clear A17))); try go_wp2_with (first | (go_at_call 91; refine calls_of_len (n' := (l0.take 100).length) (by first | rfl | simp) ?_; (with_reducible refine (head_field.calls _ _ (l0.take 100) t189 _ ?side1 ?side2 ?side3 A4.out).mono ?_); (case side1 => exact ⟨Tabs.below hT.out (by repeat (first | (with_reducible first | exact HB.out | apply below_alloc | apply pw_below_drewN | apply below_drew1) | exact HB.out))⟩); (case side2 => repeat (first | exact HR188.out | (with_reducible refine Kd.C_alloc ?_ _) | (with_reducible refine Kd.C_drewN ?_ _) | (with_reducible refine Kd.C_drew ?_))); (case side3 => exact HC188.out); rintro e w' ⟨rfl, ⟨nd, rfl⟩⟩; (try first | exact ⟨rfl, _, World.drewN_drewN _ _ _⟩ | exact ⟨rfl, _, Eq.trans (World.drewN_drewN _ _ _) (congrArg (World.drewN _) (Nat.add_assoc _ _ _))⟩); (try clear A4)) | (go_at_call 91; refine calls_of_len (n' := ((l0.take 257).drop 157).length) (by first | rfl | simp) ?_; (with_reducible refine (head_field.calls _ _ ((l0.take 257).drop 157) t191 _ ?side1 ?side2 ?side3 A7.out).mono ?_); (case side1 => exact ⟨Tabs.below hT.out (by repeat (first | (with_reducible first | exact HB.out | apply below_alloc | apply pw_below_drewN | apply below_drew1) | exact HB.out))⟩); (case side2 => repeat (first | exact HR190.out | (with_reducible refine Kd.C_alloc ?_ _) | (with_reducible refine Kd.C_drewN ?_ _) | (with_reducible refine Kd.C_drew ?_))); (case side3 => exact HC190.out); rintro e w' ⟨rfl, ⟨nd, rfl⟩⟩; (try first | exact ⟨rfl, _, World.drewN_drewN _ _ _⟩ | exact ⟨rfl, _, Eq.trans (World.drewN_drewN _ _ _) (congrArg (World.drewN _) (Nat.add_assoc _ _ _))⟩); have p192 : 0 ≤ (156 : Int) := (by omega); have q192 : 156 < (l0.length : Int) := of_decide_eq_true (by first | (with_reducible assumption) | assumption); obtain ⟨ad192, e192, hx192_0⟩ := Kd.at_int HR0.out 156 p192 q192; cases e192; (try simp only [show (156 : Int).toNat = 156 from rfl, Nat.reduceMul, Nat.reduceEqDiff, Go.Addr.add, ↓reduceIte] at hx192_0); have qi192 : (156 < l0.length) = True := eq_true (by omega); (try rw [show ((156 : Int)).toNat = 156 from rfl] at hx192_0); replace p192 := eq_true p192; replace q192 := eq_true q192; obtain ⟨i030, hi030, _, hsz30, _⟩ := info_parts info5; obtain ⟨A30, hcut30, hA30, hC30⟩ := print_mid_of (P := Tryz.prog) (Value.int .u8) 0 26 5 .i64 .i64 Tryz.underlying26 hi030 hsz30 (some ad192) c0 l0 100 108 (by omega) (by first | omega | exact of_decide_eq_true (by first | (with_reducible assumption) | assumption)) (of_decide_eq_true (by first | (with_reducible assumption) | assumption)) HC0.out; have HR193 := Aside0.mk (Kd.C_of_reads (h1 := fun _ => rfl) (hA30 _ (Kd.reads_of_C HR0.out))); have HC193 := Aside0.mk hC30; clear hA30 hC30 hi030 hsz30; (try clear A7)) | (go_at_call 91; refine calls_of_len (n' := ((l0.take 108).drop 100).length) (by first | rfl | simp) ?_; (with_reducible refine (head_field.calls _ _ ((l0.take 108).drop 100) t194 _ ?side1 ?side2 ?side3 A11.out).mono ?_); (case side1 => exact ⟨Tabs.below hT.out (by repeat (first | (with_reducible first | exact HB.out | apply below_alloc | apply pw_below_drewN | apply below_drew1) | exact HB.out))⟩); (case side2 => repeat (first | exact HR193.out | (with_reducible refine Kd.C_alloc ?_ _) | (with_reducible refine Kd.C_drewN ?_ _) | (with_reducible refine Kd.C_drew ?_))); (case side3 => exact HC193.out); rintro e w' ⟨rfl, ⟨nd, rfl⟩⟩; (try first | exact ⟨rfl, _, World.drewN_drewN _ _ _⟩ | exact ⟨rfl, _, Eq.trans (World.drewN_drewN _ _ _) (congrArg (World.drewN _) (Nat.add_assoc _ _ _))⟩); (try clear A11)) | (go_at_call 92; (with_reducible refine (head_kind.calls (rd l0 156) t194 t195 _ A12.out).mono ?_); rintro e w' ⟨rfl, ⟨nd, rfl⟩⟩; (try first | exact ⟨rfl, _, World.drewN_drewN _ _ _⟩ | exact ⟨rfl, _, Eq.trans (World.drewN_drewN _ _ _) (congrArg (World.drewN _) (Nat.add_assoc _ _ _))⟩); obtain ⟨i031, hi031, _, hsz31, _⟩ := info_parts info5; obtain ⟨A31, hcut31, hA31, hC31⟩ := print_mid_of (P := Tryz.prog) (Value.int .u8) 0 26 5 .i64 .i64 Tryz.underlying26 hi031 hsz31 (some ad192) c0 l0 124 136 (by omega) (by first | omega | exact of_decide_eq_true (by first | (with_reducible assumption) | assumption)) (of_decide_eq_true (by first | (with_reducible assumption) | assumption)) HC0.out; have HR196 := Aside0.mk (Kd.C_of_reads (h1 := fun _ => rfl) (hA31 _ (Kd.reads_of_C HR0.out))); have HC196 := Aside0.mk hC31; clear hA31 hC31 hi031 hsz31; (try clear A12)) | (go_at_call 91; refine calls_of_len (n' := ((l0.take 136).drop 124).length) (by first | rfl | simp) ?_; (with_reducible refine (head_field.calls _ _ ((l0.take 136).drop 124) t197 _ ?side1 ?side2 ?side3 A15.out).mono ?_); (case side1 => exact ⟨Tabs.below hT.out (by repeat (first | (with_reducible first | exact HB.out | apply below_alloc | apply pw_below_drewN | apply below_drew1) | exact HB.out))⟩); (case side2 => repeat (first | exact HR196.out | (with_reducible refine Kd.C_alloc ?_ _) | (with_reducible refine Kd.C_drewN ?_ _) | (with_reducible refine Kd.C_drew ?_))); (case side3 => exact HC196.out); rintro e w' ⟨rfl, ⟨nd, rfl⟩⟩; (try first | exact ⟨rfl, _, World.drewN_drewN _ _ _⟩ | exact ⟨rfl, _, Eq.trans (World.drewN_drewN _ _ _) (congrArg (World.drewN _) (Nat.add_assoc _ _ _))⟩); (try clear A15)) | (go_at_call 93; (with_reducible refine (head_OfOctal.calls k t197 t198 t199 _ A16.out).mono ?_); rintro e w' ⟨rfl, ⟨nd, rfl⟩⟩; (try first | exact ⟨rfl, _, World.drewN_drewN _ _ _⟩ | exact ⟨rfl, _, Eq.trans (World.drewN_drewN _ _ _) (congrArg (World.drewN _) (Nat.add_assoc _ _ _))⟩); (try clear A16)) | (go_at_call 79; (with_reducible refine (head_Lay.calls k t189 t195 t198 t191 t200 true _ ?side1 A17.out).mono ?_); (case side1 => exact ⟨Tabs.below hT.out (by repeat (first | (with_reducible first | exact HB.out | apply below_alloc | apply pw_below_drewN | apply below_drew1) | exact HB.out))⟩); rintro e w32 ⟨v202, rfl, ho0, hb⟩; have n0_ := Aside0.mk (Kd.R_lower ho0 (below_size (by repeat (first | (with_reducible first | exact HB.out | apply below_alloc | apply pw_below_drewN | apply below_drew1) | exact HB.out)))); have n1_ := Aside0.mk (below_step (by repeat (first | (with_reducible first | exact HB.out | apply below_alloc | apply pw_below_drewN | apply below_drew1) | exact HB.out)) hb); clear HB; have HO203 := n0_; have HB := n1_; clear n0_ n1_; (try clear hb); (try clear hb2); (try clear hk); (try clear hi); (try clear ho0); have hcv33 := own_string (P := Tryz.prog) Tryz.underlying26 Tryz.underlying5 Tryz.underlying9 (Kd.own_of_R HO203.out); have hcv34 := Kd.C_string (P := Tryz.prog) (A := (some ad192)) (c := c0) Tryz.underlying26 Tryz.underlying5 Tryz.underlying9 (Kd.C_below HR0.out HB.out); have hcvq35 := C_string_any (P := Tryz.prog) (A := (some ad192)) (c := c0) Tryz.underlying26 Tryz.underlying5 Tryz.underlying9 (Kd.C_below HR0.out HB.out); (try clear A17))))
            refine bodyPost_ret (results_list (rs := [.tmp 2, .tmp 3, .tmp 4, .tmp 5, .tmp 6]) rfl (by simp) (.tmp (.tmp (.tmp (.tmp (.tmp .nil)))))) rfl ?_
            exact ⟨by first | rfl | (simp [errW_none, errW_some] <;> rfl) | (simp [*, errW_none, errW_some] <;> rfl), by repeat (first | (with_reducible first | exact HB.out | apply below_alloc | apply pw_below_drewN | apply below_drew1) | exact HB.out)⟩
          ·replace c18 := Bool.eq_false_iff.mpr c18
           subst c18
           have H1 : (some ((⟨#[]⟩ : ByteArray), 0, 0, (⟨#[]⟩ : ByteArray), false)) = some (r1, r2, r3, r4, r5) := by rw [if_neg (show ¬ (false = true) by decide)] at H; exact H
           clear H
           have H := H1
           clear H1
           simp only [Option.some.injEq, Prod.mk.injEq] at H
           obtain ⟨rfl, rfl, rfl, rfl, rfl⟩ := H
           obtain ⟨i036, hi036, _, hsz36, _⟩ := info_parts info5
           obtain ⟨hcut36, hA36, hC36⟩ := print_take_of (P := Tryz.prog) (Value.int .u8) 0 26 5 .i64 Tryz.underlying26 hi036 hsz36 A0 c0 l0 100 (by omega) (of_decide_eq_true (by first | (with_reducible assumption) | assumption)) HC0.out
           have HR188 := Aside0.mk (Kd.C_of_reads (h1 := fun _ => rfl) (hA36 _ (Kd.reads_of_C HR0.out)))
           have HC188 := Aside0.mk hC36
           clear hA36 hC36 hi036 hsz36
           obtain ⟨i037, hi037, _, hsz37, _⟩ := info_parts info5
           obtain ⟨A37, hcut37, hA37, hC37⟩ := print_mid_of (P := Tryz.prog) (Value.int .u8) 0 26 5 .i64 .i64 Tryz.underlying26 hi037 hsz37 A0 c0 l0 157 257 (by omega) (by first | omega | exact of_decide_eq_true (by first | (with_reducible assumption) | assumption)) (of_decide_eq_true (by first | (with_reducible assumption) | assumption)) HC0.out
           have HR190 := Aside0.mk (Kd.C_of_reads (h1 := fun _ => rfl) (hA37 _ (Kd.reads_of_C HR0.out)))
           have HC190 := Aside0.mk hC37
           clear hA37 hC37 hi037 hsz37
           go_enter Tryz.func73, Tryz.ntmps73
           go_wp2_with (first | (go_at_call 91; (with_reducible refine (head_field.calls _ _ (l0.take 100) t189 _ ?side1 ?side2 ?side3 A4.out).mono ?_); (case side1 => exact ⟨Tabs.below hT.out (by repeat (first | (with_reducible first | exact HB.out | apply below_alloc | apply pw_below_drewN | apply below_drew1) | exact HB.out))⟩); (case side2 => repeat (first | exact HR188.out | (with_reducible refine Kd.C_alloc ?_ _) | (with_reducible refine Kd.C_drewN ?_ _) | (with_reducible refine Kd.C_drew ?_))); (case side3 => exact HC188.out); rintro e w' ⟨rfl, ⟨nd, rfl⟩⟩; (try first | exact ⟨rfl, _, World.drewN_drewN _ _ _⟩ | exact ⟨rfl, _, Eq.trans (World.drewN_drewN _ _ _) (congrArg (World.drewN _) (Nat.add_assoc _ _ _))⟩)) | (go_at_call 91; (with_reducible refine (head_field.calls _ _ ((l0.take 257).drop 157) t191 _ ?side1 ?side2 ?side3 A7.out).mono ?_); (case side1 => exact ⟨Tabs.below hT.out (by repeat (first | (with_reducible first | exact HB.out | apply below_alloc | apply pw_below_drewN | apply below_drew1) | exact HB.out))⟩); (case side2 => repeat (first | exact HR190.out | (with_reducible refine Kd.C_alloc ?_ _) | (with_reducible refine Kd.C_drewN ?_ _) | (with_reducible refine Kd.C_drew ?_))); (case side3 => exact HC190.out); rintro e w' ⟨rfl, ⟨nd, rfl⟩⟩; (try first | exact ⟨rfl, _, World.drewN_drewN _ _ _⟩ | exact ⟨rfl, _, Eq.trans (World.drewN_drewN _ _ _) (congrArg (World.drewN _) (Nat.add_assoc _ _ _))⟩); have p192 : 0 ≤ (156 : Int) := (by omega); have q192 : 156 < (l0.length : Int) := of_decide_eq_true (by first | (with_reducible assumption) | assumption); obtain ⟨ad192, e192, hx192_0⟩ := Kd.at_int HR0.out 156 p192 q192; cases e192; (try simp only [show (156 : Int).toNat = 156 from rfl, Nat.reduceMul, Nat.reduceEqDiff, Go.Addr.add, ↓reduceIte] at hx192_0); have qi192 : (156 < l0.length) = True := eq_true (by omega); (try rw [show ((156 : Int)).toNat = 156 from rfl] at hx192_0); replace p192 := eq_true p192; replace q192 := eq_true q192; obtain ⟨i038, hi038, _, hsz38, _⟩ := info_parts info5; obtain ⟨A38, hcut38, hA38, hC38⟩ := print_mid_of (P := Tryz.prog) (Value.int .u8) 0 26 5 .i64 .i64 Tryz.underlying26 hi038 hsz38 (some ad192) c0 l0 100 108 (by omega) (by first | omega | exact of_decide_eq_true (by first | (with_reducible assumption) | assumption)) (of_decide_eq_true (by first | (with_reducible assumption) | assumption)) HC0.out; have HR193 := Aside0.mk (Kd.C_of_reads (h1 := fun _ => rfl) (hA38 _ (Kd.reads_of_C HR0.out))); have HC193 := Aside0.mk hC38; clear hA38 hC38 hi038 hsz38) | (go_at_call 91; (with_reducible refine (head_field.calls _ _ ((l0.take 108).drop 100) t194 _ ?side1 ?side2 ?side3 A11.out).mono ?_); (case side1 => exact ⟨Tabs.below hT.out (by repeat (first | (with_reducible first | exact HB.out | apply below_alloc | apply pw_below_drewN | apply below_drew1) | exact HB.out))⟩); (case side2 => repeat (first | exact HR193.out | (with_reducible refine Kd.C_alloc ?_ _) | (with_reducible refine Kd.C_drewN ?_ _) | (with_reducible refine Kd.C_drew ?_))); (case side3 => exact HC193.out); rintro e w' ⟨rfl, ⟨nd, rfl⟩⟩; (try first | exact ⟨rfl, _, World.drewN_drewN _ _ _⟩ | exact ⟨rfl, _, Eq.trans (World.drewN_drewN _ _ _) (congrArg (World.drewN _) (Nat.add_assoc _ _ _))⟩)) | (go_at_call 92; (with_reducible refine (head_kind.calls (rd l0 156) t194 t195 _ A12.out).mono ?_); rintro e w' ⟨rfl, ⟨nd, rfl⟩⟩; (try first | exact ⟨rfl, _, World.drewN_drewN _ _ _⟩ | exact ⟨rfl, _, Eq.trans (World.drewN_drewN _ _ _) (congrArg (World.drewN _) (Nat.add_assoc _ _ _))⟩); obtain ⟨i039, hi039, _, hsz39, _⟩ := info_parts info5; obtain ⟨A39, hcut39, hA39, hC39⟩ := print_mid_of (P := Tryz.prog) (Value.int .u8) 0 26 5 .i64 .i64 Tryz.underlying26 hi039 hsz39 (some ad192) c0 l0 124 136 (by omega) (by first | omega | exact of_decide_eq_true (by first | (with_reducible assumption) | assumption)) (of_decide_eq_true (by first | (with_reducible assumption) | assumption)) HC0.out; have HR196 := Aside0.mk (Kd.C_of_reads (h1 := fun _ => rfl) (hA39 _ (Kd.reads_of_C HR0.out))); have HC196 := Aside0.mk hC39; clear hA39 hC39 hi039 hsz39) | (go_at_call 91; (with_reducible refine (head_field.calls _ _ ((l0.take 136).drop 124) t197 _ ?side1 ?side2 ?side3 A15.out).mono ?_); (case side1 => exact ⟨Tabs.below hT.out (by repeat (first | (with_reducible first | exact HB.out | apply below_alloc | apply pw_below_drewN | apply below_drew1) | exact HB.out))⟩); (case side2 => repeat (first | exact HR196.out | (with_reducible refine Kd.C_alloc ?_ _) | (with_reducible refine Kd.C_drewN ?_ _) | (with_reducible refine Kd.C_drew ?_))); (case side3 => exact HC196.out); rintro e w' ⟨rfl, ⟨nd, rfl⟩⟩; (try first | exact ⟨rfl, _, World.drewN_drewN _ _ _⟩ | exact ⟨rfl, _, Eq.trans (World.drewN_drewN _ _ _) (congrArg (World.drewN _) (Nat.add_assoc _ _ _))⟩)) | (go_at_call 93; (with_reducible refine (head_OfOctal.calls k t197 t198 t199 _ A16.out).mono ?_); rintro e w' ⟨rfl, ⟨nd, rfl⟩⟩; (try first | exact ⟨rfl, _, World.drewN_drewN _ _ _⟩ | exact ⟨rfl, _, Eq.trans (World.drewN_drewN _ _ _) (congrArg (World.drewN _) (Nat.add_assoc _ _ _))⟩)) | (go_at_call 79; (with_reducible refine (head_Lay.calls k t189 t195 t198 t191 t200 false _ ?side1 A17.out).mono ?_); (case side1 => exact ⟨Tabs.below hT.out (by repeat (first | (with_reducible first | exact HB.out | apply below_alloc | apply pw_below_drewN | apply below_drew1) | exact HB.out))⟩); rintro e w40 ⟨v202, rfl, ho0, hb⟩; have n0_ := Aside0.mk (Kd.R_lower ho0 (below_size (by repeat (first | (with_reducible first | exact HB.out | apply below_alloc | apply pw_below_drewN | apply below_drew1) | exact HB.out)))); have n1_ := Aside0.mk (below_step (by repeat (first | (with_reducible first | exact HB.out | apply below_alloc | apply pw_below_drewN | apply below_drew1) | exact HB.out)) hb); clear HB; have HO203 := n0_; have HB := n1_; clear n0_ n1_; (try clear hb); (try clear hb2); (try clear hk); (try clear hi); (try clear ho0)))
           repeat (go_quiet (first | (go_at_call 91; refine calls_of_len (n' := (l0.take 100).length) (by first | rfl | simp) ?_; (with_reducible refine (head_field.calls _ _ (l0.take 100) t189 _ ?side1 ?side2 ?side3 A4.out).mono ?_); (case side1 => exact ⟨Tabs.below hT.out (by repeat (first | (with_reducible first | exact HB.out | apply below_alloc | apply pw_below_drewN | apply below_drew1) | exact HB.out))⟩); (case side2 => repeat (first | exact HR188.out | (with_reducible refine Kd.C_alloc ?_ _) | (with_reducible refine Kd.C_drewN ?_ _) | (with_reducible refine Kd.C_drew ?_))); (case side3 => exact HC188.out); rintro e w' ⟨rfl, ⟨nd, rfl⟩⟩; (try first | exact ⟨rfl, _, World.drewN_drewN _ _ _⟩ | exact ⟨rfl, _, Eq.trans (World.drewN_drewN _ _ _) (congrArg (World.drewN _) (Nat.add_assoc _ _ _))⟩); (try clear A4)) | (go_at_call 91; refine calls_of_len (n' := ((l0.take 257).drop 157).length) (by first | rfl | simp) ?_; (with_reducible refine (head_field.calls _ _ ((l0.take 257).drop 157) t191 _ ?side1 ?side2 ?side3 A7.out).mono ?_); (case side1 => exact ⟨Tabs.below hT.out (by repeat (first | (with_reducible first | exact HB.out | apply below_alloc | apply pw_below_drewN | apply below_drew1) | exact HB.out))⟩); (case side2 => repeat (first | exact HR190.out | (with_reducible refine Kd.C_alloc ?_ _) | (with_reducible refine Kd.C_drewN ?_ _) | (with_reducible refine Kd.C_drew ?_))); (case side3 => exact HC190.out); rintro e w' ⟨rfl, ⟨nd, rfl⟩⟩; (try first | exact ⟨rfl, _, World.drewN_drewN _ _ _⟩ | exact ⟨rfl, _, Eq.trans (World.drewN_drewN _ _ _) (congrArg (World.drewN _) (Nat.add_assoc _ _ _))⟩); have p192 : 0 ≤ (156 : Int) := (by omega); have q192 : 156 < (l0.length : Int) := of_decide_eq_true (by first | (with_reducible assumption) | assumption); obtain ⟨ad192, e192, hx192_0⟩ := Kd.at_int HR0.out 156 p192 q192; cases e192; (try simp only [show (156 : Int).toNat = 156 from rfl, Nat.reduceMul, Nat.reduceEqDiff, Go.Addr.add, ↓reduceIte] at hx192_0); have qi192 : (156 < l0.length) = True := eq_true (by omega); (try rw [show ((156 : Int)).toNat = 156 from rfl] at hx192_0); replace p192 := eq_true p192; replace q192 := eq_true q192; obtain ⟨i038, hi038, _, hsz38, _⟩ := info_parts info5; obtain ⟨A38, hcut38, hA38, hC38⟩ := print_mid_of (P := Tryz.prog) (Value.int .u8) 0 26 5 .i64 .i64 Tryz.underlying26 hi038 hsz38 (some ad192) c0 l0 100 108 (by omega) (by first | omega | exact of_decide_eq_true (by first | (with_reducible assumption) | assumption)) (of_decide_eq_true (by first | (with_reducible assumption) | assumption)) HC0.out; have HR193 := Aside0.mk (Kd.C_of_reads (h1 := fun _ => rfl) (hA38 _ (Kd.reads_of_C HR0.out))); have HC193 := Aside0.mk hC38; clear hA38 hC38 hi038 hsz38; (try clear A7)) | (go_at_call 91; refine calls_of_len (n' := ((l0.take 108).drop 100).length) (by first | rfl | simp) ?_; (with_reducible refine (head_field.calls _ _ ((l0.take 108).drop 100) t194 _ ?side1 ?side2 ?side3 A11.out).mono ?_); (case side1 => exact ⟨Tabs.below hT.out (by repeat (first | (with_reducible first | exact HB.out | apply below_alloc | apply pw_below_drewN | apply below_drew1) | exact HB.out))⟩); (case side2 => repeat (first | exact HR193.out | (with_reducible refine Kd.C_alloc ?_ _) | (with_reducible refine Kd.C_drewN ?_ _) | (with_reducible refine Kd.C_drew ?_))); (case side3 => exact HC193.out); rintro e w' ⟨rfl, ⟨nd, rfl⟩⟩; (try first | exact ⟨rfl, _, World.drewN_drewN _ _ _⟩ | exact ⟨rfl, _, Eq.trans (World.drewN_drewN _ _ _) (congrArg (World.drewN _) (Nat.add_assoc _ _ _))⟩); (try clear A11)) | (go_at_call 92; (with_reducible refine (head_kind.calls (rd l0 156) t194 t195 _ A12.out).mono ?_); rintro e w' ⟨rfl, ⟨nd, rfl⟩⟩; (try first | exact ⟨rfl, _, World.drewN_drewN _ _ _⟩ | exact ⟨rfl, _, Eq.trans (World.drewN_drewN _ _ _) (congrArg (World.drewN _) (Nat.add_assoc _ _ _))⟩); obtain ⟨i039, hi039, _, hsz39, _⟩ := info_parts info5; obtain ⟨A39, hcut39, hA39, hC39⟩ := print_mid_of (P := Tryz.prog) (Value.int .u8) 0 26 5 .i64 .i64 Tryz.underlying26 hi039 hsz39 (some ad192) c0 l0 124 136 (by omega) (by first | omega | exact of_decide_eq_true (by first | (with_reducible assumption) | assumption)) (of_decide_eq_true (by first | (with_reducible assumption) | assumption)) HC0.out; have HR196 := Aside0.mk (Kd.C_of_reads (h1 := fun _ => rfl) (hA39 _ (Kd.reads_of_C HR0.out))); have HC196 := Aside0.mk hC39; clear hA39 hC39 hi039 hsz39; (try clear A12)) | (go_at_call 91; refine calls_of_len (n' := ((l0.take 136).drop 124).length) (by first | rfl | simp) ?_; (with_reducible refine (head_field.calls _ _ ((l0.take 136).drop 124) t197 _ ?side1 ?side2 ?side3 A15.out).mono ?_); (case side1 => exact ⟨Tabs.below hT.out (by repeat (first | (with_reducible first | exact HB.out | apply below_alloc | apply pw_below_drewN | apply below_drew1) | exact HB.out))⟩); (case side2 => repeat (first | exact HR196.out | (with_reducible refine Kd.C_alloc ?_ _) | (with_reducible refine Kd.C_drewN ?_ _) | (with_reducible refine Kd.C_drew ?_))); (case side3 => exact HC196.out); rintro e w' ⟨rfl, ⟨nd, rfl⟩⟩; (try first | exact ⟨rfl, _, World.drewN_drewN _ _ _⟩ | exact ⟨rfl, _, Eq.trans (World.drewN_drewN _ _ _) (congrArg (World.drewN _) (Nat.add_assoc _ _ _))⟩); (try clear A15)) | (go_at_call 93; (with_reducible refine (head_OfOctal.calls k t197 t198 t199 _ A16.out).mono ?_); rintro e w' ⟨rfl, ⟨nd, rfl⟩⟩; (try first | exact ⟨rfl, _, World.drewN_drewN _ _ _⟩ | exact ⟨rfl, _, Eq.trans (World.drewN_drewN _ _ _) (congrArg (World.drewN _) (Nat.add_assoc _ _ _))⟩); (try clear A16)) | (go_at_call 79; (with_reducible refine (head_Lay.calls k t189 t195 t198 t191 t200 false _ ?side1 A17.out).mono ?_); (case side1 => exact ⟨Tabs.below hT.out (by repeat (first | (with_reducible first | exact HB.out | apply below_alloc | apply pw_below_drewN | apply below_drew1) | exact HB.out))⟩); rintro e w40 ⟨v202, rfl, ho0, hb⟩; have n0_ := Aside0.mk (Kd.R_lower ho0 (below_size (by repeat (first | (with_reducible first | exact HB.out | apply below_alloc | apply pw_below_drewN | apply below_drew1) | exact HB.out)))); have n1_ := Aside0.mk (below_step (by repeat (first | (with_reducible first | exact HB.out | apply below_alloc | apply pw_below_drewN | apply below_drew1) | exact HB.out)) hb); clear HB; have HO203 := n0_; have HB := n1_; clear n0_ n1_; (try clear hb); (try clear hb2); (try clear hk); (try clear hi); (try clear ho0); (try clear A17))); try go_wp2_with (first | (go_at_call 91; refine calls_of_len (n' := (l0.take 100).length) (by first | rfl | simp) ?_; (with_reducible refine (head_field.calls _ _ (l0.take 100) t189 _ ?side1 ?side2 ?side3 A4.out).mono ?_); (case side1 => exact ⟨Tabs.below hT.out (by repeat (first | (with_reducible first | exact HB.out | apply below_alloc | apply pw_below_drewN | apply below_drew1) | exact HB.out))⟩); (case side2 => repeat (first | exact HR188.out | (with_reducible refine Kd.C_alloc ?_ _) | (with_reducible refine Kd.C_drewN ?_ _) | (with_reducible refine Kd.C_drew ?_))); (case side3 => exact HC188.out); rintro e w' ⟨rfl, ⟨nd, rfl⟩⟩; (try first | exact ⟨rfl, _, World.drewN_drewN _ _ _⟩ | exact ⟨rfl, _, Eq.trans (World.drewN_drewN _ _ _) (congrArg (World.drewN _) (Nat.add_assoc _ _ _))⟩); (try clear A4)) | (go_at_call 91; refine calls_of_len (n' := ((l0.take 257).drop 157).length) (by first | rfl | simp) ?_; (with_reducible refine (head_field.calls _ _ ((l0.take 257).drop 157) t191 _ ?side1 ?side2 ?side3 A7.out).mono ?_); (case side1 => exact ⟨Tabs.below hT.out (by repeat (first | (with_reducible first | exact HB.out | apply below_alloc | apply pw_below_drewN | apply below_drew1) | exact HB.out))⟩); (case side2 => repeat (first | exact HR190.out | (with_reducible refine Kd.C_alloc ?_ _) | (with_reducible refine Kd.C_drewN ?_ _) | (with_reducible refine Kd.C_drew ?_))); (case side3 => exact HC190.out); rintro e w' ⟨rfl, ⟨nd, rfl⟩⟩; (try first | exact ⟨rfl, _, World.drewN_drewN _ _ _⟩ | exact ⟨rfl, _, Eq.trans (World.drewN_drewN _ _ _) (congrArg (World.drewN _) (Nat.add_assoc _ _ _))⟩); have p192 : 0 ≤ (156 : Int) := (by omega); have q192 : 156 < (l0.length : Int) := of_decide_eq_true (by first | (with_reducible assumption) | assumption); obtain ⟨ad192, e192, hx192_0⟩ := Kd.at_int HR0.out 156 p192 q192; cases e192; (try simp only [show (156 : Int).toNat = 156 from rfl, Nat.reduceMul, Nat.reduceEqDiff, Go.Addr.add, ↓reduceIte] at hx192_0); have qi192 : (156 < l0.length) = True := eq_true (by omega); (try rw [show ((156 : Int)).toNat = 156 from rfl] at hx192_0); replace p192 := eq_true p192; replace q192 := eq_true q192; obtain ⟨i038, hi038, _, hsz38, _⟩ := info_parts info5; obtain ⟨A38, hcut38, hA38, hC38⟩ := print_mid_of (P := Tryz.prog) (Value.int .u8) 0 26 5 .i64 .i64 Tryz.underlying26 hi038 hsz38 (some ad192) c0 l0 100 108 (by omega) (by first | omega | exact of_decide_eq_true (by first | (with_reducible assumption) | assumption)) (of_decide_eq_true (by first | (with_reducible assumption) | assumption)) HC0.out; have HR193 := Aside0.mk (Kd.C_of_reads (h1 := fun _ => rfl) (hA38 _ (Kd.reads_of_C HR0.out))); have HC193 := Aside0.mk hC38; clear hA38 hC38 hi038 hsz38; (try clear A7)) | (go_at_call 91; refine calls_of_len (n' := ((l0.take 108).drop 100).length) (by first | rfl | simp) ?_; (with_reducible refine (head_field.calls _ _ ((l0.take 108).drop 100) t194 _ ?side1 ?side2 ?side3 A11.out).mono ?_); (case side1 => exact ⟨Tabs.below hT.out (by repeat (first | (with_reducible first | exact HB.out | apply below_alloc | apply pw_below_drewN | apply below_drew1) | exact HB.out))⟩); (case side2 => repeat (first | exact HR193.out | (with_reducible refine Kd.C_alloc ?_ _) | (with_reducible refine Kd.C_drewN ?_ _) | (with_reducible refine Kd.C_drew ?_))); (case side3 => exact HC193.out); rintro e w' ⟨rfl, ⟨nd, rfl⟩⟩; (try first | exact ⟨rfl, _, World.drewN_drewN _ _ _⟩ | exact ⟨rfl, _, Eq.trans (World.drewN_drewN _ _ _) (congrArg (World.drewN _) (Nat.add_assoc _ _ _))⟩); (try clear A11)) | (go_at_call 92; (with_reducible refine (head_kind.calls (rd l0 156) t194 t195 _ A12.out).mono ?_); rintro e w' ⟨rfl, ⟨nd, rfl⟩⟩; (try first | exact ⟨rfl, _, World.drewN_drewN _ _ _⟩ | exact ⟨rfl, _, Eq.trans (World.drewN_drewN _ _ _) (congrArg (World.drewN _) (Nat.add_assoc _ _ _))⟩); obtain ⟨i039, hi039, _, hsz39, _⟩ := info_parts info5; obtain ⟨A39, hcut39, hA39, hC39⟩ := print_mid_of (P := Tryz.prog) (Value.int .u8) 0 26 5 .i64 .i64 Tryz.underlying26 hi039 hsz39 (some ad192) c0 l0 124 136 (by omega) (by first | omega | exact of_decide_eq_true (by first | (with_reducible assumption) | assumption)) (of_decide_eq_true (by first | (with_reducible assumption) | assumption)) HC0.out; have HR196 := Aside0.mk (Kd.C_of_reads (h1 := fun _ => rfl) (hA39 _ (Kd.reads_of_C HR0.out))); have HC196 := Aside0.mk hC39; clear hA39 hC39 hi039 hsz39; (try clear A12)) | (go_at_call 91; refine calls_of_len (n' := ((l0.take 136).drop 124).length) (by first | rfl | simp) ?_; (with_reducible refine (head_field.calls _ _ ((l0.take 136).drop 124) t197 _ ?side1 ?side2 ?side3 A15.out).mono ?_); (case side1 => exact ⟨Tabs.below hT.out (by repeat (first | (with_reducible first | exact HB.out | apply below_alloc | apply pw_below_drewN | apply below_drew1) | exact HB.out))⟩); (case side2 => repeat (first | exact HR196.out | (with_reducible refine Kd.C_alloc ?_ _) | (with_reducible refine Kd.C_drewN ?_ _) | (with_reducible refine Kd.C_drew ?_))); (case side3 => exact HC196.out); rintro e w' ⟨rfl, ⟨nd, rfl⟩⟩; (try first | exact ⟨rfl, _, World.drewN_drewN _ _ _⟩ | exact ⟨rfl, _, Eq.trans (World.drewN_drewN _ _ _) (congrArg (World.drewN _) (Nat.add_assoc _ _ _))⟩); (try clear A15)) | (go_at_call 93; (with_reducible refine (head_OfOctal.calls k t197 t198 t199 _ A16.out).mono ?_); rintro e w' ⟨rfl, ⟨nd, rfl⟩⟩; (try first | exact ⟨rfl, _, World.drewN_drewN _ _ _⟩ | exact ⟨rfl, _, Eq.trans (World.drewN_drewN _ _ _) (congrArg (World.drewN _) (Nat.add_assoc _ _ _))⟩); (try clear A16)) | (go_at_call 79; (with_reducible refine (head_Lay.calls k t189 t195 t198 t191 t200 false _ ?side1 A17.out).mono ?_); (case side1 => exact ⟨Tabs.below hT.out (by repeat (first | (with_reducible first | exact HB.out | apply below_alloc | apply pw_below_drewN | apply below_drew1) | exact HB.out))⟩); rintro e w40 ⟨v202, rfl, ho0, hb⟩; have n0_ := Aside0.mk (Kd.R_lower ho0 (below_size (by repeat (first | (with_reducible first | exact HB.out | apply below_alloc | apply pw_below_drewN | apply below_drew1) | exact HB.out)))); have n1_ := Aside0.mk (below_step (by repeat (first | (with_reducible first | exact HB.out | apply below_alloc | apply pw_below_drewN | apply below_drew1) | exact HB.out)) hb); clear HB; have HO203 := n0_; have HB := n1_; clear n0_ n1_; (try clear hb); (try clear hb2); (try clear hk); (try clear hi); (try clear ho0); (try clear A17))))
           refine bodyPost_ret (results_list (rs := [.tmp 2, .tmp 3, .tmp 4, .tmp 5, .tmp 6]) rfl (by simp) (.tmp (.tmp (.tmp (.tmp (.tmp .nil)))))) rfl ?_
           exact ⟨by first | rfl | (simp [errW_none, errW_some] <;> rfl) | (simp [*, errW_none, errW_some] <;> rfl), by repeat (first | (with_reducible first | exact HB.out | apply below_alloc | apply pw_below_drewN | apply below_drew1) | exact HB.out)⟩
         ·rw [if_neg c14] at H
          exact absurd H (by simp)
        ·rw [if_neg c13] at H
         exact absurd H (by simp)
       ·rw [if_neg c10] at H
        exact absurd H (by simp)
      ·rw [if_neg c9] at H
       exact absurd H (by simp)
     ·rw [if_neg c8] at H
      exact absurd H (by simp)
    ·rw [if_neg c6] at H
     exact absurd H (by simp)
   ·rw [if_neg c5] at H
    exact absurd H (by simp)
  ·rw [if_neg c3] at H
   exact absurd H (by simp)
 ·rw [if_neg c2] at H
  have c2b0 : ((l0.length : Int) == 512) = false := beq_eq_false_iff_ne.mpr c2
  have c2b1 : ((l0.length : Int) != 512) = true := bne_iff_ne.mpr c2
  simp only [Option.some.injEq, Prod.mk.injEq] at H
  obtain ⟨rfl, rfl, rfl, rfl, rfl⟩ := H
  go_enter Tryz.func73, Tryz.ntmps73
  go_wp2
  repeat (go_quiet (fail); try go_wp2)
  refine bodyPost_ret (results_list (rs := [.tmp 2, .tmp 3, .tmp 4, .tmp 5, .tmp 6]) rfl (by simp) (.tmp (.tmp (.tmp (.tmp (.tmp .nil)))))) rfl ?_
  exact ⟨by first | rfl | (simp [errW_none, errW_some] <;> rfl) | (simp [*, errW_none, errW_some] <;> rfl), by repeat (first | (with_reducible first | exact HB.out | apply below_alloc | apply pw_below_drewN | apply below_drew1) | exact HB.out)⟩
end Go.Proofs.YtdijnmcfpbceaaaGreatDoor.P

namespace Go.Proofs.YtdijnmcfpbceaaaGreatDoor.P
open Go.Proofs.YtdijnmcfpbceaaaGreatDoor.X
open Go.RowKit Go.Proofs.YtdijnmcfpbceaaaGreatDoorW.PrintWords Go.Proofs.YtdijnmcfpbceaaaGreatDoorW.PrintLast Go.Proofs.YtdijnmcfpbceaaaGreatDoorW.PrintMore
attribute [local go_sem] min2_int min_two
set_option linter.unusedVariables false
set_option linter.unusedSimpArgs false
def hogsheadref12_field.l0 : Nat → List Int → Int → Option (ByteArray)
 | 0, _, _ => none
 | k + 1, x0, x3 => if x3 < (x0.length : Int) then (if 0 ≤ x3 then (if (rd x0 x3) = 0 then (if x3 ≤ (x0.length : Int) then (some (strOfNums (x0.take (x3 : Int).toNat))) else (none)) else (hogsheadref12_field.l0 k x0 (wrap64 (x3 + 1)))) else (none)) else (if 0 ≤ x3 then (if x3 ≤ (x0.length : Int) then (some (strOfNums (x0.take (x3 : Int).toNat))) else (none)) else (none))
def hogsheadref12_field.f (k : Nat) (l0 : List Int) : Option (ByteArray) := hogsheadref12_field.l0 k l0 0
set_option maxHeartbeats 8000000 in
set_option maxRecDepth 100000 in
theorem hogsheadref12_field.calls (k : Nat) (A0 : Option Addr) (c0 : Nat) (l0 : List Int) (r : ByteArray) (w : World) (hr0 : Kd.C (Kd.int .u8) w A0 l0.length l0) (hc0 : l0.length ≤ c0) (h : hogsheadref12_field.f k l0 = some r) :
  Calls Tryz.prog 54 #[.slice A0 l0.length c0] w fun e w' => e = .returned (.string r) ∧ Drawn0 w w' := by
 have HR0 := Aside0.mk hr0
 have HC0 := Aside0.mk hc0
 clear hr0 hc0
 have H : (hogsheadref12_field.l0 k l0 0) = some r := h
 clear h
 have H' := Aside0.mk H
 clear H
 go_enter Tryz.func54, Tryz.ntmps54
 go_wp2
 go_loopg [3] k (fun kq v3 w' => ∃ (x3_1 : Int), v3 = .int .i64 x3_1 ∧ Aside0 (hogsheadref12_field.l0 kq l0 x3_1 = some r) ∧ Aside0 (kq ≤ k) ∧ Drawn0 w w')
 case atStart => exact ⟨(0), (by first | rfl | (simp; done) | (simp [*]; done) | exact congrArg Value.bool (nil_ne _) | exact congrArg Value.bool (nil_eq _) | exact congrArg Value.bool (nil_ne' _)), H', ⟨Nat.le_refl _⟩, by repeat (first | exact Drawn0.refl _ | apply Drawn0.step)⟩
 case round =>
  clear H'
  obtain ⟨x3_1, rfl, HA, HK1, ⟨m1, rfl⟩⟩ := hrel
  cases gk with
  | zero => exact absurd HA.out (by simp [hogsheadref12_field.l0])
  | succ k1 =>
   have H := HA.out
   clear HA
   simp only [hogsheadref12_field.l0] at H
   by_cases c2 : x3_1 < (l0.length : Int)
   ·rw [if_pos c2] at H
    have c2b0 : decide (x3_1 < (l0.length : Int)) = true := decide_eq_true c2
    clear c2
    by_cases c3 : 0 ≤ x3_1
    ·rw [if_pos c3] at H
     have c3b0 : decide (0 ≤ x3_1) = true := decide_eq_true c3
     clear c3
     by_cases c4 : (rd l0 x3_1) = 0
     ·rw [if_pos c4] at H
      have c4b0 : ((rd l0 x3_1) == 0) = true := beq_iff_eq.mpr c4
      have c4b1 : ((rd l0 x3_1) != 0) = false := bne_eq_false_iff_eq.mpr c4
      clear c4
      have c5b0 := eq_true (of_decide_eq_true (by first | (with_reducible assumption) | assumption) : 0 ≤ x3_1)
      by_cases c6 : x3_1 ≤ (l0.length : Int)
      ·rw [if_pos c6] at H
       have c6b0 := eq_true c6
       have c6b1 : decide (x3_1 ≤ (l0.length : Int)) = true := decide_eq_true c6
       clear c6
       obtain rfl := Option.some.inj H
       have p204 : 0 ≤ (x3_1 : Int) := of_decide_eq_true (by first | (with_reducible assumption) | assumption)
       have q204 : x3_1 < (l0.length : Int) := of_decide_eq_true (by first | (with_reducible assumption) | assumption)
       obtain ⟨ad204, e204, hx204_0⟩ := Kd.at_int HR0.out x3_1 p204 q204
       cases e204
       replace p204 := eq_true p204
       replace q204 := eq_true q204
       obtain ⟨i07, hi07, _, hsz7, _⟩ := info_parts info5
       obtain ⟨hcut7, hA7, hC7⟩ := print_take_of (P := Tryz.prog) (Value.int .u8) 0 26 5 .i64 Tryz.underlying26 hi07 hsz7 (some ad204) c0 l0 x3_1 (of_decide_eq_true (by first | (with_reducible assumption) | assumption)) (of_decide_eq_true (by first | (with_reducible assumption) | assumption)) HC0.out
       have HR205 := Aside0.mk (Kd.C_of_reads (h1 := fun _ => rfl) (hA7 _ (Kd.reads_of_C HR0.out)))
       have HC205 := Aside0.mk hC7
       clear hA7 hC7 hi07 hsz7
       have hcv8 := Kd.C_string (P := Tryz.prog) (A := (some ad204)) (c := c0) Tryz.underlying26 Tryz.underlying5 Tryz.underlying9 HR205.out
       have hcvq9 := C_string_any (P := Tryz.prog) (A := (some ad204)) (c := c0) Tryz.underlying26 Tryz.underlying5 Tryz.underlying9 HR205.out
       go_wp2
       go_ret
       exact ⟨by first | rfl | (simp; done) | (simp [*]; done), by repeat (first | exact Drawn0.refl _ | apply Drawn0.step)⟩
      ·rw [if_neg c6] at H
       exact absurd H (by simp)
     ·rw [if_neg c4] at H
      have c4b0 : ((rd l0 x3_1) == 0) = false := beq_eq_false_iff_ne.mpr c4
      have c4b1 : ((rd l0 x3_1) != 0) = true := bne_iff_ne.mpr c4
      have H' := Aside0.mk H
      clear H
      have p204 : 0 ≤ (x3_1 : Int) := of_decide_eq_true (by first | (with_reducible assumption) | assumption)
      have q204 : x3_1 < (l0.length : Int) := of_decide_eq_true (by first | (with_reducible assumption) | assumption)
      obtain ⟨ad204, e204, hx204_0⟩ := Kd.at_int HR0.out x3_1 p204 q204
      cases e204
      replace p204 := eq_true p204
      replace q204 := eq_true q204
      go_wp2
      go_roundg k1
      case measure => have := HK1.out; omega
      case rel => exact ⟨(wrap64 (x3_1 + 1)), (by first | rfl | (simp; done) | (simp [*]; done) | exact congrArg Value.bool (nil_ne _) | exact congrArg Value.bool (nil_eq _) | exact congrArg Value.bool (nil_ne' _)), H', ⟨by have := HK1.out; omega⟩, by repeat (first | exact Drawn0.refl _ | apply Drawn0.step)⟩
    ·rw [if_neg c3] at H
     exact absurd H (by simp)
   ·rw [if_neg c2] at H
    have c2b0 : decide (x3_1 < (l0.length : Int)) = false := decide_eq_false c2
    clear c2
    by_cases c10 : 0 ≤ x3_1
    ·rw [if_pos c10] at H
     have c10b0 := eq_true c10
     have c10b1 : decide (0 ≤ x3_1) = true := decide_eq_true c10
     clear c10
     by_cases c11 : x3_1 ≤ (l0.length : Int)
     ·rw [if_pos c11] at H
      have c11b0 := eq_true c11
      have c11b1 : decide (x3_1 ≤ (l0.length : Int)) = true := decide_eq_true c11
      clear c11
      obtain rfl := Option.some.inj H
      obtain ⟨i012, hi012, _, hsz12, _⟩ := info_parts info5
      obtain ⟨hcut12, hA12, hC12⟩ := print_take_of (P := Tryz.prog) (Value.int .u8) 0 26 5 .i64 Tryz.underlying26 hi012 hsz12 A0 c0 l0 x3_1 (of_decide_eq_true (by first | (with_reducible assumption) | assumption)) (of_decide_eq_true (by first | (with_reducible assumption) | assumption)) HC0.out
      have HR206 := Aside0.mk (Kd.C_of_reads (h1 := fun _ => rfl) (hA12 _ (Kd.reads_of_C HR0.out)))
      have HC206 := Aside0.mk hC12
      clear hA12 hC12 hi012 hsz12
      have hcv13 := Kd.C_string (P := Tryz.prog) (A := A0) (c := c0) Tryz.underlying26 Tryz.underlying5 Tryz.underlying9 HR206.out
      have hcvq14 := C_string_any (P := Tryz.prog) (A := A0) (c := c0) Tryz.underlying26 Tryz.underlying5 Tryz.underlying9 HR206.out
      go_wp2
      go_ret
      exact ⟨by first | rfl | (simp; done) | (simp [*]; done), by repeat (first | exact Drawn0.refl _ | apply Drawn0.step)⟩
     ·rw [if_neg c11] at H
      exact absurd H (by simp)
    ·rw [if_neg c10] at H
     exact absurd H (by simp)
end Go.Proofs.YtdijnmcfpbceaaaGreatDoor.P

namespace Go.Proofs.YtdijnmcfpbceaaaGreatDoor.P
open Go.Proofs.YtdijnmcfpbceaaaGreatDoor.X
open Go.RowKit Go.Proofs.YtdijnmcfpbceaaaGreatDoorW.PrintWords Go.Proofs.YtdijnmcfpbceaaaGreatDoorW.PrintLast Go.Proofs.YtdijnmcfpbceaaaGreatDoorW.PrintMore
attribute [local go_sem] min2_int min_two
set_option linter.unusedVariables false
set_option linter.unusedSimpArgs false
def hogsheadref12_Read.l0 : Nat → List Int → ByteArray → ByteArray → Int → Int → Option (ByteArray × Int × Int × ByteArray × Bool)
 | 0, _, _, _, _, _ => none
 | k + 1, x0, x7, x8, x9, x11 => if x11 ≤ 5 then ((hogsheadref12_Lay.f k x7 x11 x9 x8).bind fun bt214 => (if bt214.2 = true then (if (strOfNums bt214.1).toList = (strOfNums x0).toList then (some (x7, x11, x9, x8, true)) else (hogsheadref12_Read.l0 k x0 x7 x8 x9 (wrap64 (x11 + 1)))) else (hogsheadref12_Read.l0 k x0 x7 x8 x9 (wrap64 (x11 + 1))))) else (some ((⟨#[]⟩ : ByteArray), 0, 0, (⟨#[]⟩ : ByteArray), false))
def hogsheadref12_Read.f (k : Nat) (l0 : List Int) : Option (ByteArray × Int × Int × ByteArray × Bool) := if (l0.length : Int) = 512 then (if 100 ≤ (l0.length : Int) then ((hogsheadref12_field.f k (l0.take 100)).bind fun t208 => (if 157 ≤ 257 then (if 257 ≤ (l0.length : Int) then ((hogsheadref12_field.f k ((l0.take 257).drop 157)).bind fun t210 => (if 124 ≤ 135 then (if 135 ≤ (l0.length : Int) then ((hogsheadref12_OfOctal.f k (strOfNums ((l0.take 135).drop 124))).bind fun bt212 => (hogsheadref12_Read.l0 k l0 t208 t210 bt212.1 1)) else (none)) else (none))) else (none)) else (none))) else (none)) else (some ((⟨#[]⟩ : ByteArray), 0, 0, (⟨#[]⟩ : ByteArray), false))
set_option maxHeartbeats 8000000 in
set_option maxRecDepth 100000 in
theorem hogsheadref12_Read.calls (k : Nat) (A0 : Option Addr) (c0 : Nat) (l0 : List Int) (r1 : ByteArray) (r2 : Int) (r3 : Int) (r4 : ByteArray) (r5 : Bool) (w : World) (hr0 : Kd.C (Kd.int .u8) w A0 l0.length l0) (hc0 : l0.length ≤ c0) (h : hogsheadref12_Read.f k l0 = some (r1, r2, r3, r4, r5)) :
  Calls Tryz.prog 41 #[.slice A0 l0.length c0] w fun e w' => e = .returned (.tuple #[.string r1, .int .i64 r2, .int .i64 r3, .string r4, .bool r5]) ∧ Below w.heap.size w w' := by
 have HR0 := Aside0.mk hr0
 have HC0 := Aside0.mk hc0
 clear hr0 hc0
 have HB := Aside0.mk (Below.refl w.heap.size w)
 have H : (if (l0.length : Int) = 512 then (if 100 ≤ (l0.length : Int) then ((hogsheadref12_field.f k (l0.take 100)).bind fun t208 => (if 157 ≤ 257 then (if 257 ≤ (l0.length : Int) then ((hogsheadref12_field.f k ((l0.take 257).drop 157)).bind fun t210 => (if 124 ≤ 135 then (if 135 ≤ (l0.length : Int) then ((hogsheadref12_OfOctal.f k (strOfNums ((l0.take 135).drop 124))).bind fun bt212 => (hogsheadref12_Read.l0 k l0 t208 t210 bt212.1 1)) else (none)) else (none))) else (none)) else (none))) else (none)) else (some ((⟨#[]⟩ : ByteArray), 0, 0, (⟨#[]⟩ : ByteArray), false))) = some (r1, r2, r3, r4, r5) := h
 clear h
 by_cases c2 : (l0.length : Int) = 512
 ·rw [if_pos c2] at H
  have c2b0 : ((l0.length : Int) == 512) = true := beq_iff_eq.mpr c2
  have c2b1 : ((l0.length : Int) != 512) = false := bne_eq_false_iff_eq.mpr c2
  clear c2
  by_cases c3 : 100 ≤ (l0.length : Int)
  ·rw [if_pos c3] at H
   have c3b0 := eq_true c3
   have c3b1 : decide (100 ≤ (l0.length : Int)) = true := decide_eq_true c3
   clear c3
   replace H := Option.bind_eq_some_iff.mp H
   obtain ⟨t208, A40, H⟩ := H
   replace H : (if 157 ≤ 257 then (if 257 ≤ (l0.length : Int) then ((hogsheadref12_field.f k ((l0.take 257).drop 157)).bind fun t210 => (if 124 ≤ 135 then (if 135 ≤ (l0.length : Int) then ((hogsheadref12_OfOctal.f k (strOfNums ((l0.take 135).drop 124))).bind fun bt212 => (hogsheadref12_Read.l0 k l0 t208 t210 bt212.1 1)) else (none)) else (none))) else (none)) else (none)) = some (r1, r2, r3, r4, r5) := H
   have A4 := Aside0.mk A40
   clear A40
   by_cases c5 : 157 ≤ 257
   ·rw [if_pos c5] at H
    have c5b0 := eq_true c5
    have c5b1 : decide (157 ≤ 257) = true := decide_eq_true c5
    clear c5
    by_cases c6 : 257 ≤ (l0.length : Int)
    ·rw [if_pos c6] at H
     have c6b0 := eq_true c6
     have c6b1 : decide (257 ≤ (l0.length : Int)) = true := decide_eq_true c6
     clear c6
     replace H := Option.bind_eq_some_iff.mp H
     obtain ⟨t210, A70, H⟩ := H
     replace H : (if 124 ≤ 135 then (if 135 ≤ (l0.length : Int) then ((hogsheadref12_OfOctal.f k (strOfNums ((l0.take 135).drop 124))).bind fun bt212 => (hogsheadref12_Read.l0 k l0 t208 t210 bt212.1 1)) else (none)) else (none)) = some (r1, r2, r3, r4, r5) := H
     have A7 := Aside0.mk A70
     clear A70
     by_cases c8 : 124 ≤ 135
     ·rw [if_pos c8] at H
      have c8b0 := eq_true c8
      have c8b1 : decide (124 ≤ 135) = true := decide_eq_true c8
      clear c8
      by_cases c9 : 135 ≤ (l0.length : Int)
      ·rw [if_pos c9] at H
       have c9b0 := eq_true c9
       have c9b1 : decide (135 ≤ (l0.length : Int)) = true := decide_eq_true c9
       clear c9
       replace H := Option.bind_eq_some_iff.mp H
       obtain ⟨⟨t212, t213⟩, A100, H⟩ := H
       replace H : (hogsheadref12_Read.l0 k l0 t208 t210 t212 1) = some (r1, r2, r3, r4, r5) := H
       have A10 := Aside0.mk A100
       clear A100
       have H' := Aside0.mk H
       clear H
       obtain ⟨i011, hi011, _, hsz11, _⟩ := info_parts info5
       obtain ⟨hcut11, hA11, hC11⟩ := print_take_of (P := Tryz.prog) (Value.int .u8) 0 26 5 .i64 Tryz.underlying26 hi011 hsz11 A0 c0 l0 100 (by omega) (of_decide_eq_true (by first | (with_reducible assumption) | assumption)) HC0.out
       have HR207 := Aside0.mk (Kd.C_of_reads (h1 := fun _ => rfl) (hA11 _ (Kd.reads_of_C HR0.out)))
       have HC207 := Aside0.mk hC11
       clear hA11 hC11 hi011 hsz11
       obtain ⟨i012, hi012, _, hsz12, _⟩ := info_parts info5
       obtain ⟨A12, hcut12, hA12, hC12⟩ := print_mid_of (P := Tryz.prog) (Value.int .u8) 0 26 5 .i64 .i64 Tryz.underlying26 hi012 hsz12 A0 c0 l0 157 257 (by omega) (by first | omega | exact of_decide_eq_true (by first | (with_reducible assumption) | assumption)) (of_decide_eq_true (by first | (with_reducible assumption) | assumption)) HC0.out
       have HR209 := Aside0.mk (Kd.C_of_reads (h1 := fun _ => rfl) (hA12 _ (Kd.reads_of_C HR0.out)))
       have HC209 := Aside0.mk hC12
       clear hA12 hC12 hi012 hsz12
       obtain ⟨i013, hi013, _, hsz13, _⟩ := info_parts info5
       obtain ⟨A13, hcut13, hA13, hC13⟩ := print_mid_of (P := Tryz.prog) (Value.int .u8) 0 26 5 .i64 .i64 Tryz.underlying26 hi013 hsz13 A0 c0 l0 124 135 (by omega) (by first | omega | exact of_decide_eq_true (by first | (with_reducible assumption) | assumption)) (of_decide_eq_true (by first | (with_reducible assumption) | assumption)) HC0.out
       have HR211 := Aside0.mk (Kd.C_of_reads (h1 := fun _ => rfl) (hA13 _ (Kd.reads_of_C HR0.out)))
       have HC211 := Aside0.mk hC13
       clear hA13 hC13 hi013 hsz13
       have hcv14 := Kd.C_string (P := Tryz.prog) (A := A13) (c := (c0 - 124)) Tryz.underlying26 Tryz.underlying5 Tryz.underlying9 HR211.out
       have hcvq15 := C_string_any (P := Tryz.prog) (A := A13) (c := (c0 - 124)) Tryz.underlying26 Tryz.underlying5 Tryz.underlying9 HR211.out
       go_enter Tryz.func41, Tryz.ntmps41
       go_wp2_with (first | (go_at_call 54; (with_reducible refine (hogsheadref12_field.calls k _ _ (l0.take 100) t208 _ ?side1 ?side2 A4.out).mono ?_); (case side1 => repeat (first | exact HR207.out | (with_reducible refine Kd.C_alloc ?_ _) | (with_reducible refine Kd.C_drewN ?_ _) | (with_reducible refine Kd.C_drew ?_))); (case side2 => exact HC207.out); rintro e w' ⟨rfl, ⟨nd, rfl⟩⟩; (try first | exact ⟨rfl, _, World.drewN_drewN _ _ _⟩ | exact ⟨rfl, _, Eq.trans (World.drewN_drewN _ _ _) (congrArg (World.drewN _) (Nat.add_assoc _ _ _))⟩)) | (go_at_call 54; (with_reducible refine (hogsheadref12_field.calls k _ _ ((l0.take 257).drop 157) t210 _ ?side1 ?side2 A7.out).mono ?_); (case side1 => repeat (first | exact HR209.out | (with_reducible refine Kd.C_alloc ?_ _) | (with_reducible refine Kd.C_drewN ?_ _) | (with_reducible refine Kd.C_drew ?_))); (case side2 => exact HC209.out); rintro e w' ⟨rfl, ⟨nd, rfl⟩⟩; (try first | exact ⟨rfl, _, World.drewN_drewN _ _ _⟩ | exact ⟨rfl, _, Eq.trans (World.drewN_drewN _ _ _) (congrArg (World.drewN _) (Nat.add_assoc _ _ _))⟩)) | (go_at_call 55; (with_reducible refine (hogsheadref12_OfOctal.calls k (strOfNums ((l0.take 135).drop 124)) t212 t213 _ A10.out).mono ?_); rintro e w' ⟨rfl, ⟨nd, rfl⟩⟩; (try first | exact ⟨rfl, _, World.drewN_drewN _ _ _⟩ | exact ⟨rfl, _, Eq.trans (World.drewN_drewN _ _ _) (congrArg (World.drewN _) (Nat.add_assoc _ _ _))⟩)))
       repeat (go_quiet (first | (go_at_call 54; refine calls_of_len (n' := (l0.take 100).length) (by first | rfl | simp) ?_; (with_reducible refine (hogsheadref12_field.calls k _ _ (l0.take 100) t208 _ ?side1 ?side2 A4.out).mono ?_); (case side1 => repeat (first | exact HR207.out | (with_reducible refine Kd.C_alloc ?_ _) | (with_reducible refine Kd.C_drewN ?_ _) | (with_reducible refine Kd.C_drew ?_))); (case side2 => exact HC207.out); rintro e w' ⟨rfl, ⟨nd, rfl⟩⟩; (try first | exact ⟨rfl, _, World.drewN_drewN _ _ _⟩ | exact ⟨rfl, _, Eq.trans (World.drewN_drewN _ _ _) (congrArg (World.drewN _) (Nat.add_assoc _ _ _))⟩); (try clear A4)) | (go_at_call 54; refine calls_of_len (n' := ((l0.take 257).drop 157).length) (by first | rfl | simp) ?_; (with_reducible refine (hogsheadref12_field.calls k _ _ ((l0.take 257).drop 157) t210 _ ?side1 ?side2 A7.out).mono ?_); (case side1 => repeat (first | exact HR209.out | (with_reducible refine Kd.C_alloc ?_ _) | (with_reducible refine Kd.C_drewN ?_ _) | (with_reducible refine Kd.C_drew ?_))); (case side2 => exact HC209.out); rintro e w' ⟨rfl, ⟨nd, rfl⟩⟩; (try first | exact ⟨rfl, _, World.drewN_drewN _ _ _⟩ | exact ⟨rfl, _, Eq.trans (World.drewN_drewN _ _ _) (congrArg (World.drewN _) (Nat.add_assoc _ _ _))⟩); (try clear A7)) | (go_at_call 55; (with_reducible refine (hogsheadref12_OfOctal.calls k (strOfNums ((l0.take 135).drop 124)) t212 t213 _ A10.out).mono ?_); rintro e w' ⟨rfl, ⟨nd, rfl⟩⟩; (try first | exact ⟨rfl, _, World.drewN_drewN _ _ _⟩ | exact ⟨rfl, _, Eq.trans (World.drewN_drewN _ _ _) (congrArg (World.drewN _) (Nat.add_assoc _ _ _))⟩); (try clear A10))); try go_wp2_with (first | (go_at_call 54; refine calls_of_len (n' := (l0.take 100).length) (by first | rfl | simp) ?_; (with_reducible refine (hogsheadref12_field.calls k _ _ (l0.take 100) t208 _ ?side1 ?side2 A4.out).mono ?_); (case side1 => repeat (first | exact HR207.out | (with_reducible refine Kd.C_alloc ?_ _) | (with_reducible refine Kd.C_drewN ?_ _) | (with_reducible refine Kd.C_drew ?_))); (case side2 => exact HC207.out); rintro e w' ⟨rfl, ⟨nd, rfl⟩⟩; (try first | exact ⟨rfl, _, World.drewN_drewN _ _ _⟩ | exact ⟨rfl, _, Eq.trans (World.drewN_drewN _ _ _) (congrArg (World.drewN _) (Nat.add_assoc _ _ _))⟩); (try clear A4)) | (go_at_call 54; refine calls_of_len (n' := ((l0.take 257).drop 157).length) (by first | rfl | simp) ?_; (with_reducible refine (hogsheadref12_field.calls k _ _ ((l0.take 257).drop 157) t210 _ ?side1 ?side2 A7.out).mono ?_); (case side1 => repeat (first | exact HR209.out | (with_reducible refine Kd.C_alloc ?_ _) | (with_reducible refine Kd.C_drewN ?_ _) | (with_reducible refine Kd.C_drew ?_))); (case side2 => exact HC209.out); rintro e w' ⟨rfl, ⟨nd, rfl⟩⟩; (try first | exact ⟨rfl, _, World.drewN_drewN _ _ _⟩ | exact ⟨rfl, _, Eq.trans (World.drewN_drewN _ _ _) (congrArg (World.drewN _) (Nat.add_assoc _ _ _))⟩); (try clear A7)) | (go_at_call 55; (with_reducible refine (hogsheadref12_OfOctal.calls k (strOfNums ((l0.take 135).drop 124)) t212 t213 _ A10.out).mono ?_); rintro e w' ⟨rfl, ⟨nd, rfl⟩⟩; (try first | exact ⟨rfl, _, World.drewN_drewN _ _ _⟩ | exact ⟨rfl, _, Eq.trans (World.drewN_drewN _ _ _) (congrArg (World.drewN _) (Nat.add_assoc _ _ _))⟩); (try clear A10))))
       go_loopg [11] k (fun kq v11 w' => ∃ (x11_1 : Int), v11 = .int .i64 x11_1 ∧ Aside0 (hogsheadref12_Read.l0 kq l0 t208 t210 t212 x11_1 = some (r1, r2, r3, r4, r5)) ∧ Aside0 (kq ≤ k) ∧ Aside0 (Below w.heap.size w w'))
       case atStart => exact ⟨(1), (by first | rfl | (simp; done) | (simp [*]; done) | exact congrArg Value.bool (nil_ne _) | exact congrArg Value.bool (nil_eq _) | exact congrArg Value.bool (nil_ne' _)), H', ⟨Nat.le_refl _⟩, ⟨by repeat (first | (with_reducible first | exact HB.out | apply below_alloc | apply pw_below_drewN | apply below_drew1) | exact HB.out)⟩⟩
       case round =>
        clear H'
        try clear q1
        try clear hcv1
        try clear c2
        try clear c2b0
        try clear c2b1
        try clear p2
        try clear c3
        try clear c3b0
        try clear c3b1
        try clear c4
        try clear c5
        try clear c5b0
        try clear c5b1
        try clear c6
        try clear c6b0
        try clear c6b1
        try clear c8
        try clear c8b0
        try clear c8b1
        try clear c9
        try clear c9b0
        try clear c9b1
        try clear hcv14
        try clear q15
        obtain ⟨x11_1, rfl, HA, HK1, HB⟩ := hrel
        cases gk with
        | zero => exact absurd HA.out (by simp [hogsheadref12_Read.l0])
        | succ k1 =>
         have H := HA.out
         clear HA
         simp only [hogsheadref12_Read.l0] at H
         by_cases c16 : x11_1 ≤ 5
         ·rw [if_pos c16] at H
          have c16b0 : decide (x11_1 ≤ 5) = true := decide_eq_true c16
          clear c16
          replace H := Option.bind_eq_some_iff.mp H
          obtain ⟨⟨t214, t215⟩, A170, H⟩ := H
          replace H : (if t215 = true then (if (strOfNums t214).toList = (strOfNums l0).toList then (some (t208, x11_1, t212, t210, true)) else (hogsheadref12_Read.l0 k1 l0 t208 t210 t212 (wrap64 (x11_1 + 1)))) else (hogsheadref12_Read.l0 k1 l0 t208 t210 t212 (wrap64 (x11_1 + 1)))) = some (r1, r2, r3, r4, r5) := H
          have A17 := Aside0.mk A170
          clear A170
          by_cases c18 : t215 = true
          ·subst c18
           have H1 : (if (strOfNums t214).toList = (strOfNums l0).toList then (some (t208, x11_1, t212, t210, true)) else (hogsheadref12_Read.l0 k1 l0 t208 t210 t212 (wrap64 (x11_1 + 1)))) = some (r1, r2, r3, r4, r5) := by rw [if_pos rfl] at H; exact H
           clear H
           have H := H1
           clear H1
           by_cases c19 : (strOfNums t214).toList = (strOfNums l0).toList
           ·rw [if_pos c19] at H
            have c19b0 : ((strOfNums t214).toList == (strOfNums l0).toList) = true := beq_iff_eq.mpr c19
            have c19b1 : ((strOfNums t214).toList != (strOfNums l0).toList) = false := bne_eq_false_iff_eq.mpr c19
            clear c19
            simp only [Option.some.injEq, Prod.mk.injEq] at H
            obtain ⟨rfl, rfl, rfl, rfl, rfl⟩ := H
            go_wp2_with (first | (go_at_call 32; (with_reducible refine (hogsheadref12_Lay.calls k1 t208 x11_1 t212 t210 t214 true _ A17.out).mono ?_); rintro e w20 ⟨v216, rfl, ho0, hb⟩; have n0_ := Aside0.mk (Kd.R_lower ho0 (below_size (by repeat (first | (with_reducible first | exact HB.out | apply below_alloc | apply pw_below_drewN | apply below_drew1) | exact HB.out)))); have n1_ := Aside0.mk (below_step (by repeat (first | (with_reducible first | exact HB.out | apply below_alloc | apply pw_below_drewN | apply below_drew1) | exact HB.out)) hb); clear HB; have HO217 := n0_; have HB := n1_; clear n0_ n1_; (try clear hb); (try clear hb2); (try clear hk); (try clear hi); (try clear ho0); have hcv21 := own_string (P := Tryz.prog) Tryz.underlying26 Tryz.underlying5 Tryz.underlying9 (Kd.own_of_R HO217.out); have hcv22 := Kd.C_string (P := Tryz.prog) (A := A0) (c := c0) Tryz.underlying26 Tryz.underlying5 Tryz.underlying9 (Kd.C_below HR0.out HB.out); have hcvq23 := C_string_any (P := Tryz.prog) (A := A0) (c := c0) Tryz.underlying26 Tryz.underlying5 Tryz.underlying9 (Kd.C_below HR0.out HB.out)))
            repeat (go_quiet (first | (go_at_call 32; (with_reducible refine (hogsheadref12_Lay.calls k1 t208 x11_1 t212 t210 t214 true _ A17.out).mono ?_); rintro e w20 ⟨v216, rfl, ho0, hb⟩; have n0_ := Aside0.mk (Kd.R_lower ho0 (below_size (by repeat (first | (with_reducible first | exact HB.out | apply below_alloc | apply pw_below_drewN | apply below_drew1) | exact HB.out)))); have n1_ := Aside0.mk (below_step (by repeat (first | (with_reducible first | exact HB.out | apply below_alloc | apply pw_below_drewN | apply below_drew1) | exact HB.out)) hb); clear HB; have HO217 := n0_; have HB := n1_; clear n0_ n1_; (try clear hb); (try clear hb2); (try clear hk); (try clear hi); (try clear ho0); have hcv21 := own_string (P := Tryz.prog) Tryz.underlying26 Tryz.underlying5 Tryz.underlying9 (Kd.own_of_R HO217.out); have hcv22 := Kd.C_string (P := Tryz.prog) (A := A0) (c := c0) Tryz.underlying26 Tryz.underlying5 Tryz.underlying9 (Kd.C_below HR0.out HB.out); have hcvq23 := C_string_any (P := Tryz.prog) (A := A0) (c := c0) Tryz.underlying26 Tryz.underlying5 Tryz.underlying9 (Kd.C_below HR0.out HB.out); (try clear A17))); try go_wp2_with (first | (go_at_call 32; (with_reducible refine (hogsheadref12_Lay.calls k1 t208 x11_1 t212 t210 t214 true _ A17.out).mono ?_); rintro e w20 ⟨v216, rfl, ho0, hb⟩; have n0_ := Aside0.mk (Kd.R_lower ho0 (below_size (by repeat (first | (with_reducible first | exact HB.out | apply below_alloc | apply pw_below_drewN | apply below_drew1) | exact HB.out)))); have n1_ := Aside0.mk (below_step (by repeat (first | (with_reducible first | exact HB.out | apply below_alloc | apply pw_below_drewN | apply below_drew1) | exact HB.out)) hb); clear HB; have HO217 := n0_; have HB := n1_; clear n0_ n1_; (try clear hb); (try clear hb2); (try clear hk); (try clear hi); (try clear ho0); have hcv21 := own_string (P := Tryz.prog) Tryz.underlying26 Tryz.underlying5 Tryz.underlying9 (Kd.own_of_R HO217.out); have hcv22 := Kd.C_string (P := Tryz.prog) (A := A0) (c := c0) Tryz.underlying26 Tryz.underlying5 Tryz.underlying9 (Kd.C_below HR0.out HB.out); have hcvq23 := C_string_any (P := Tryz.prog) (A := A0) (c := c0) Tryz.underlying26 Tryz.underlying5 Tryz.underlying9 (Kd.C_below HR0.out HB.out); (try clear A17))))
            refine bodyPost_ret (results_list (rs := [.tmp 2, .tmp 3, .tmp 4, .tmp 5, .tmp 6]) rfl (by simp) (.tmp (.tmp (.tmp (.tmp (.tmp .nil)))))) rfl ?_
            exact ⟨by first | rfl | (simp [errW_none, errW_some] <;> rfl) | (simp [*, errW_none, errW_some] <;> rfl), by repeat (first | (with_reducible first | exact HB.out | apply below_alloc | apply pw_below_drewN | apply below_drew1) | exact HB.out)⟩
           ·rw [if_neg c19] at H
            have c19b0 : ((strOfNums t214).toList == (strOfNums l0).toList) = false := beq_eq_false_iff_ne.mpr c19
            have c19b1 : ((strOfNums t214).toList != (strOfNums l0).toList) = true := bne_iff_ne.mpr c19
            have H' := Aside0.mk H
            clear H
            go_wp2_with (first | (go_at_call 32; (with_reducible refine (hogsheadref12_Lay.calls k1 t208 x11_1 t212 t210 t214 true _ A17.out).mono ?_); rintro e w24 ⟨v216, rfl, ho0, hb⟩; have n0_ := Aside0.mk (Kd.R_lower ho0 (below_size (by repeat (first | (with_reducible first | exact HB.out | apply below_alloc | apply pw_below_drewN | apply below_drew1) | exact HB.out)))); have n1_ := Aside0.mk (below_step (by repeat (first | (with_reducible first | exact HB.out | apply below_alloc | apply pw_below_drewN | apply below_drew1) | exact HB.out)) hb); clear HB; have HO217 := n0_; have HB := n1_; clear n0_ n1_; (try clear hb); (try clear hb2); (try clear hk); (try clear hi); (try clear ho0); have hcv25 := own_string (P := Tryz.prog) Tryz.underlying26 Tryz.underlying5 Tryz.underlying9 (Kd.own_of_R HO217.out); have hcv26 := Kd.C_string (P := Tryz.prog) (A := A0) (c := c0) Tryz.underlying26 Tryz.underlying5 Tryz.underlying9 (Kd.C_below HR0.out HB.out); have hcvq27 := C_string_any (P := Tryz.prog) (A := A0) (c := c0) Tryz.underlying26 Tryz.underlying5 Tryz.underlying9 (Kd.C_below HR0.out HB.out)))
            repeat (go_quiet (first | (go_at_call 32; (with_reducible refine (hogsheadref12_Lay.calls k1 t208 x11_1 t212 t210 t214 true _ A17.out).mono ?_); rintro e w24 ⟨v216, rfl, ho0, hb⟩; have n0_ := Aside0.mk (Kd.R_lower ho0 (below_size (by repeat (first | (with_reducible first | exact HB.out | apply below_alloc | apply pw_below_drewN | apply below_drew1) | exact HB.out)))); have n1_ := Aside0.mk (below_step (by repeat (first | (with_reducible first | exact HB.out | apply below_alloc | apply pw_below_drewN | apply below_drew1) | exact HB.out)) hb); clear HB; have HO217 := n0_; have HB := n1_; clear n0_ n1_; (try clear hb); (try clear hb2); (try clear hk); (try clear hi); (try clear ho0); have hcv25 := own_string (P := Tryz.prog) Tryz.underlying26 Tryz.underlying5 Tryz.underlying9 (Kd.own_of_R HO217.out); have hcv26 := Kd.C_string (P := Tryz.prog) (A := A0) (c := c0) Tryz.underlying26 Tryz.underlying5 Tryz.underlying9 (Kd.C_below HR0.out HB.out); have hcvq27 := C_string_any (P := Tryz.prog) (A := A0) (c := c0) Tryz.underlying26 Tryz.underlying5 Tryz.underlying9 (Kd.C_below HR0.out HB.out); (try clear A17))); try go_wp2_with (first | (go_at_call 32; (with_reducible refine (hogsheadref12_Lay.calls k1 t208 x11_1 t212 t210 t214 true _ A17.out).mono ?_); rintro e w24 ⟨v216, rfl, ho0, hb⟩; have n0_ := Aside0.mk (Kd.R_lower ho0 (below_size (by repeat (first | (with_reducible first | exact HB.out | apply below_alloc | apply pw_below_drewN | apply below_drew1) | exact HB.out)))); have n1_ := Aside0.mk (below_step (by repeat (first | (with_reducible first | exact HB.out | apply below_alloc | apply pw_below_drewN | apply below_drew1) | exact HB.out)) hb); clear HB; have HO217 := n0_; have HB := n1_; clear n0_ n1_; (try clear hb); (try clear hb2); (try clear hk); (try clear hi); (try clear ho0); have hcv25 := own_string (P := Tryz.prog) Tryz.underlying26 Tryz.underlying5 Tryz.underlying9 (Kd.own_of_R HO217.out); have hcv26 := Kd.C_string (P := Tryz.prog) (A := A0) (c := c0) Tryz.underlying26 Tryz.underlying5 Tryz.underlying9 (Kd.C_below HR0.out HB.out); have hcvq27 := C_string_any (P := Tryz.prog) (A := A0) (c := c0) Tryz.underlying26 Tryz.underlying5 Tryz.underlying9 (Kd.C_below HR0.out HB.out); (try clear A17))))
            go_roundg k1
            case measure => have := HK1.out; omega
            case rel => exact ⟨(wrap64 (x11_1 + 1)), (by first | rfl | (simp; done) | (simp [*]; done) | exact congrArg Value.bool (nil_ne _) | exact congrArg Value.bool (nil_eq _) | exact congrArg Value.bool (nil_ne' _)), H', ⟨by have := HK1.out; omega⟩, ⟨by repeat (first | (with_reducible first | exact HB.out | apply below_alloc | apply pw_below_drewN | apply below_drew1) | exact HB.out)⟩⟩
          ·replace c18 := Bool.eq_false_iff.mpr c18
           subst c18
           have H1 : (hogsheadref12_Read.l0 k1 l0 t208 t210 t212 (wrap64 (x11_1 + 1))) = some (r1, r2, r3, r4, r5) := by rw [if_neg (show ¬ (false = true) by decide)] at H; exact H
           clear H
           have H := H1
           clear H1
           have H' := Aside0.mk H
           clear H
           go_wp2_with (first | (go_at_call 32; (with_reducible refine (hogsheadref12_Lay.calls k1 t208 x11_1 t212 t210 t214 false _ A17.out).mono ?_); rintro e w28 ⟨v216, rfl, ho0, hb⟩; have n0_ := Aside0.mk (Kd.R_lower ho0 (below_size (by repeat (first | (with_reducible first | exact HB.out | apply below_alloc | apply pw_below_drewN | apply below_drew1) | exact HB.out)))); have n1_ := Aside0.mk (below_step (by repeat (first | (with_reducible first | exact HB.out | apply below_alloc | apply pw_below_drewN | apply below_drew1) | exact HB.out)) hb); clear HB; have HO217 := n0_; have HB := n1_; clear n0_ n1_; (try clear hb); (try clear hb2); (try clear hk); (try clear hi); (try clear ho0)))
           repeat (go_quiet (first | (go_at_call 32; (with_reducible refine (hogsheadref12_Lay.calls k1 t208 x11_1 t212 t210 t214 false _ A17.out).mono ?_); rintro e w28 ⟨v216, rfl, ho0, hb⟩; have n0_ := Aside0.mk (Kd.R_lower ho0 (below_size (by repeat (first | (with_reducible first | exact HB.out | apply below_alloc | apply pw_below_drewN | apply below_drew1) | exact HB.out)))); have n1_ := Aside0.mk (below_step (by repeat (first | (with_reducible first | exact HB.out | apply below_alloc | apply pw_below_drewN | apply below_drew1) | exact HB.out)) hb); clear HB; have HO217 := n0_; have HB := n1_; clear n0_ n1_; (try clear hb); (try clear hb2); (try clear hk); (try clear hi); (try clear ho0); (try clear A17))); try go_wp2_with (first | (go_at_call 32; (with_reducible refine (hogsheadref12_Lay.calls k1 t208 x11_1 t212 t210 t214 false _ A17.out).mono ?_); rintro e w28 ⟨v216, rfl, ho0, hb⟩; have n0_ := Aside0.mk (Kd.R_lower ho0 (below_size (by repeat (first | (with_reducible first | exact HB.out | apply below_alloc | apply pw_below_drewN | apply below_drew1) | exact HB.out)))); have n1_ := Aside0.mk (below_step (by repeat (first | (with_reducible first | exact HB.out | apply below_alloc | apply pw_below_drewN | apply below_drew1) | exact HB.out)) hb); clear HB; have HO217 := n0_; have HB := n1_; clear n0_ n1_; (try clear hb); (try clear hb2); (try clear hk); (try clear hi); (try clear ho0); (try clear A17))))
           go_roundg k1
           case measure => have := HK1.out; omega
           case rel => exact ⟨(wrap64 (x11_1 + 1)), (by first | rfl | (simp; done) | (simp [*]; done) | exact congrArg Value.bool (nil_ne _) | exact congrArg Value.bool (nil_eq _) | exact congrArg Value.bool (nil_ne' _)), H', ⟨by have := HK1.out; omega⟩, ⟨by repeat (first | (with_reducible first | exact HB.out | apply below_alloc | apply pw_below_drewN | apply below_drew1) | exact HB.out)⟩⟩
         ·rw [if_neg c16] at H
          have c16b0 : decide (x11_1 ≤ 5) = false := decide_eq_false c16
          clear c16
          simp only [Option.some.injEq, Prod.mk.injEq] at H
          obtain ⟨rfl, rfl, rfl, rfl, rfl⟩ := H
          go_wp2
          repeat (go_quiet (fail); try go_wp2)
          refine bodyPost_ret (results_list (rs := [.tmp 2, .tmp 3, .tmp 4, .tmp 5, .tmp 6]) rfl (by simp) (.tmp (.tmp (.tmp (.tmp (.tmp .nil)))))) rfl ?_
          exact ⟨by first | rfl | (simp [errW_none, errW_some] <;> rfl) | (simp [*, errW_none, errW_some] <;> rfl), by repeat (first | (with_reducible first | exact HB.out | apply below_alloc | apply pw_below_drewN | apply below_drew1) | exact HB.out)⟩
      ·rw [if_neg c9] at H
       exact absurd H (by simp)
     ·rw [if_neg c8] at H
      exact absurd H (by simp)
    ·rw [if_neg c6] at H
     exact absurd H (by simp)
   ·rw [if_neg c5] at H
    exact absurd H (by simp)
  ·rw [if_neg c3] at H
   exact absurd H (by simp)
 ·rw [if_neg c2] at H
  have c2b0 : ((l0.length : Int) == 512) = false := beq_eq_false_iff_ne.mpr c2
  have c2b1 : ((l0.length : Int) != 512) = true := bne_iff_ne.mpr c2
  simp only [Option.some.injEq, Prod.mk.injEq] at H
  obtain ⟨rfl, rfl, rfl, rfl, rfl⟩ := H
  go_enter Tryz.func41, Tryz.ntmps41
  go_wp2
  repeat (go_quiet (fail); try go_wp2)
  refine bodyPost_ret (results_list (rs := [.tmp 2, .tmp 3, .tmp 4, .tmp 5, .tmp 6]) rfl (by simp) (.tmp (.tmp (.tmp (.tmp (.tmp .nil)))))) rfl ?_
  exact ⟨by first | rfl | (simp [errW_none, errW_some] <;> rfl) | (simp [*, errW_none, errW_some] <;> rfl), by repeat (first | (with_reducible first | exact HB.out | apply below_alloc | apply pw_below_drewN | apply below_drew1) | exact HB.out)⟩
end Go.Proofs.YtdijnmcfpbceaaaGreatDoor.P

namespace Go.Proofs.YtdijnmcfpbceaaaGreatDoor.X
open Go.RowKit Go.Proofs.YtdijnmcfpbceaaaGreatDoorW.PrintWords Go.Proofs.YtdijnmcfpbceaaaGreatDoor.P
set_option linter.unusedVariables false
set_option linter.unusedSimpArgs false
def fieldR (l : List Int) : ByteArray := strOfNums (l.takeWhile (· != 0))
theorem field_eq (l : List Int) (h : Bytes l) (hn : l.length < 4294967281) : head_field.f l = some (fieldR l) := by
  unfold head_field.f strings_Cut.f
  have e : (strOfNums l).size = l.length := by rw [strOfNums_mk, size_mk, List.length_map]
  rw [if_pos (by omega)]
  simp only [Option.bind_some]
  rw [cut_first]
  unfold fieldR
  rw [strOfNums_mk, strOfNums_mk, ← takeWhile_u8 l h]
theorem ref_field_l0 (l : List Int) (hn : l.length ≤ 1000000) : ∀ (d i : Nat), l.length - i = d → i ≤ l.length → Ev (fun k => hogsheadref12_field.l0 k l (i : Int)) (strOfNums (l.take i ++ (l.drop i).takeWhile (· != 0))) := by
  intro d
  induction d with
  | zero =>
    intro i hd hi
    refine ⟨1, fun k hk => ?_⟩
    obtain ⟨k, rfl⟩ : ∃ m, k = m + 1 := ⟨k - 1, by omega⟩
    simp only [hogsheadref12_field.l0]
    rw [if_neg (by omega), if_pos (by omega), if_pos (by omega), List.drop_eq_nil_of_le (by omega), Int.toNat_natCast, List.takeWhile_nil, List.append_nil]
  | succ d ih =>
    intro i hd hi
    have hlt : i < l.length := by omega
    obtain ⟨K, hK⟩ := ih (i + 1) (by omega) (by omega)
    refine ⟨K + 1, fun k hk => ?_⟩
    obtain ⟨k, rfl⟩ : ∃ m, k = m + 1 := ⟨k - 1, by omega⟩
    have hK := hK k (by omega)
    simp only at hK
    simp only [hogsheadref12_field.l0]
    rw [if_pos (by omega), if_pos (by omega), rd_getElem l i hlt, List.drop_eq_getElem_cons hlt, List.takeWhile_cons]
    by_cases e : l[i] = 0
    · rw [if_pos e, if_pos (by omega), if_neg (by simp [e]), Int.toNat_natCast, List.append_nil]
    · rw [if_neg e, wrap_i i l.length hlt (by omega), hK, if_pos (by simpa using e), List.take_succ_eq_append_getElem hlt, List.append_assoc]
      rfl
theorem ref_field_eq (l : List Int) (hn : l.length ≤ 1000000) : Ev (fun k => hogsheadref12_field.f k l) (fieldR l) := by
  have := ref_field_l0 l hn l.length 0 (by omega) (by omega)
  rw [List.take_zero, List.nil_append, List.drop_zero] at this
  exact this
def kindR (c : Int) (m : ByteArray) : Int := if c = 53 then 1 else if c = 50 then 4 else if c = 120 then 5 else if m.toList = [48, 48, 48, 48, 55, 53, 53] then 3 else 2
theorem kind_eq (c : Int) (m : ByteArray) : head_kind.f c m = some (kindR c m) := by
  unfold head_kind.f kindR
  split
  · rfl
  split
  · rfl
  split
  · rfl
  split <;> rfl
def readN (b : List Int) : ByteArray := fieldR (b.take 100)
def readL (b : List Int) : ByteArray := fieldR ((b.take 257).drop 157)
def readK (b : List Int) : Int := kindR (rd b 156) (fieldR ((b.take 108).drop 100))
def readS (b : List Int) : Int := (ofOctR (fieldR ((b.take 136).drop 124))).1
def Told (b : List Int) : Prop := b.length = 512 ∧ layR (readN b) (readK b) (readS b) (readL b) = (b, true)
instance (b : List Int) : Decidable (Told b) := by unfold Told; infer_instance
def readR (b : List Int) : ByteArray × Int × Int × ByteArray × Bool := if Told b then (readN b, readK b, readS b, readL b, true) else (⟨#[]⟩, 0, 0, ⟨#[]⟩, false)
theorem layR_Bytes (a0 : ByteArray) (a1 a2 : Int) (a3 : ByteArray) : Bytes (layR a0 a1 a2 a3).1 := by
  unfold layR
  split
  · rename_i h
    exact layB_Bytes _ _ _ _ h.1.2.1 h.1.2.2.2.1
  · intro x hx; cases hx
theorem ofOctR_range (s : ByteArray) : 0 ≤ (ofOctR s).1 ∧ (ofOctR s).1 < 9223372036854775808 := by
  unfold ofOctR
  split
  · rename_i h
    have g : ∀ (l : List UInt8) (n x : Nat) (m : Nat), octV l x = some n → x < 8 ^ m → n < 8 ^ (m + l.length) := by
      intro l
      induction l with
      | nil => intro n x m h hx; simp only [octV, Option.some.injEq] at h; subst h; exact hx
      | cons c l ih =>
        intro n x m h hx
        rw [octV] at h
        split at h
        · rename_i hc
          have := ih n _ (m + 1) h (by rw [Nat.pow_succ]; omega)
          rw [List.length_cons]
          rw [show m + 1 + l.length = m + (l.length + 1) by omega] at this
          exact this
        · cases h
    cases e : octV s.data.toList 0 with
    | none => simp
    | some n =>
      have h1 := g _ _ 0 0 e (by decide)
      have h2 : 8 ^ (0 + s.data.toList.length) ≤ 8 ^ 11 := Nat.pow_le_pow_right (by omega) (by rw [data_length]; omega)
      have h3 : (8 : Nat) ^ 11 = 8589934592 := by decide
      rw [h3] at h2
      have h4 := Nat.lt_of_lt_of_le h1 h2
      clear h1 h2 h3 e g
      simp only
      omega
  · simp
theorem read_eq (b : List Int) (h : Bytes b) : Ev (fun k => head_Read.f k b) (readR b) := by
  by_cases hl : b.length = 512
  rotate_left
  · refine ⟨0, fun k hk => ?_⟩
    show head_Read.f k b = _
    unfold head_Read.f readR
    rw [if_neg (by omega), if_neg (fun x => hl x.1)]
  obtain ⟨K1, k1⟩ := ofOctal_eq (fieldR ((b.take 136).drop 124))
  refine ⟨K1 + 1, fun k hk => ?_⟩
  have k1 := k1 k (by omega)
  obtain ⟨k, rfl⟩ : ∃ m, k = m + 1 := ⟨k - 1, by omega⟩
  simp only at k1
  have hr := (ofOctR_range (fieldR ((b.take 136).drop 124))).2
  show head_Read.f _ b = _
  unfold head_Read.f
  have f0 := field_eq (b.take 100) (h.take _) (by rw [List.length_take]; omega)
  have f1 := field_eq ((b.take 257).drop 157) ((h.take _).drop _) (by rw [List.length_drop, List.length_take]; omega)
  have f2 := field_eq ((b.take 108).drop 100) ((h.take _).drop _) (by rw [List.length_drop, List.length_take]; omega)
  have f3 := field_eq ((b.take 136).drop 124) ((h.take _).drop _) (by rw [List.length_drop, List.length_take]; omega)
  rw [if_pos (by omega), if_pos (by omega), f0]
  simp only [Option.bind_some]
  rw [if_pos (by decide), if_pos (by omega), f1]
  simp only [Option.bind_some]
  rw [if_pos (by omega), if_pos (by decide), if_pos (by omega), f2]
  simp only [Option.bind_some]
  rw [kind_eq]
  simp only [Option.bind_some]
  rw [if_pos (by decide), if_pos (by omega), f3]
  simp only [Option.bind_some]
  rw [k1]
  simp only [Option.bind_some]
  rw [lay_eq _ _ _ _ _ hr]
  simp only [Option.bind_some]
  have hb := layR_Bytes (readN b) (readK b) (readS b) (readL b)
  unfold readR
  show (if (layR (readN b) (readK b) (readS b) (readL b)).2 = true then (if (strOfNums (layR (readN b) (readK b) (readS b) (readL b)).1).toList = (strOfNums b).toList then some (readN b, readK b, readS b, readL b, true) else some (⟨#[]⟩, 0, 0, ⟨#[]⟩, false)) else some (⟨#[]⟩, 0, 0, ⟨#[]⟩, false)) = _
  by_cases e2 : (layR (readN b) (readK b) (readS b) (readL b)).2 = true
  rotate_left
  · rw [if_neg e2, if_neg (fun x => e2 (by rw [x.2]))]
  rw [if_pos e2]
  by_cases e1 : (layR (readN b) (readK b) (readS b) (readL b)).1 = b
  · rw [if_pos ((str_toList_inj _ _ hb h).2 e1), if_pos ⟨hl, Prod.ext e1 e2⟩]
  · rw [if_neg (fun x => e1 ((str_toList_inj _ _ hb h).1 x)), if_neg (fun x => e1 (by rw [x.2]))]
theorem slice_mid (A B C : List Int) (p q : Nat) (hA : A.length = p) (hB : p + B.length = q) : ((A ++ (B ++ C)).take q).drop p = B := by
  subst hA
  subst hB
  rw [← List.append_assoc, List.take_append_of_le_length (by rw [List.length_append]; omega), List.take_of_length_le (by rw [List.length_append]; omega), List.drop_append_of_le_length (Nat.le_refl _), List.drop_length, List.nil_append]
theorem field_pad (n : Nat) (s : ByteArray) (h : (0 : UInt8) ∉ s.data.toList) : fieldR (padS n s) = s := by
  unfold fieldR padS
  have e : (bytesOf s ++ List.replicate (n - s.size) (0 : Int)).takeWhile (· != 0) = bytesOf s := by
    have ha : ∀ x ∈ bytesOf s, (x != 0) = true := by
      intro x hx
      unfold bytesOf at hx
      obtain ⟨c, hc, rfl⟩ := List.mem_map.1 hx
      have : c ≠ 0 := fun e => h (e ▸ hc)
      have : c.toNat ≠ 0 := fun e => this (UInt8.toNat_inj.1 e)
      simp only [bne_iff_ne, ne_eq]
      omega
    rw [List.takeWhile_append_of_pos ha]
    cases n - s.size with
    | zero => simp
    | succ m => rw [List.replicate_succ, List.takeWhile_cons, if_neg (by simp), List.append_nil]
  rw [e, str_bytesOf]
theorem canon_take100 (name md dg : ByteArray) (Y : List Int) (h0 : name.size ≤ 100) : (canonA name md dg ++ Y).take 100 = padS 100 name := by
  have := slice_mid [] (padS 100 name) ((padS 8 md ++ (padS 8 z7 ++ (padS 8 z7 ++ (padS 12 dg ++ padS 12 z11)))) ++ Y) 0 100 rfl (by rw [padS_length h0])
  rw [List.drop_zero, List.nil_append, ← List.append_assoc] at this
  exact this
theorem canon_mode (name md dg : ByteArray) (Y : List Int) (h0 : name.size ≤ 100) (h1 : md.size ≤ 8) : ((canonA name md dg ++ Y).take 108).drop 100 = padS 8 md := by
  have := slice_mid (padS 100 name) (padS 8 md) ((padS 8 z7 ++ (padS 8 z7 ++ (padS 12 dg ++ padS 12 z11))) ++ Y) 100 108 (padS_length h0) (by rw [padS_length h1])
  rw [← this]
  unfold canonA
  simp only [List.append_assoc]
theorem canon_size (name md dg : ByteArray) (Y : List Int) (h0 : name.size ≤ 100) (h1 : md.size ≤ 8) (h2 : dg.size ≤ 12) : ((canonA name md dg ++ Y).take 136).drop 124 = padS 12 dg := by
  have := slice_mid (padS 100 name ++ (padS 8 md ++ (padS 8 z7 ++ padS 8 z7))) (padS 12 dg) (padS 12 z11 ++ Y) 124 136 (by simp only [List.length_append]; rw [padS_length h0, padS_length h1, padS_length (show z7.size ≤ 8 by decide)]) (by rw [padS_length h2])
  rw [← this]
  unfold canonA
  simp only [List.append_assoc]
theorem canon_size11 (name md dg : ByteArray) (Y : List Int) (h0 : name.size ≤ 100) (h1 : md.size ≤ 8) (h2 : dg.size = 11) : ((canonA name md dg ++ Y).take 135).drop 124 = bytesOf dg := by
  have := slice_mid (padS 100 name ++ (padS 8 md ++ (padS 8 z7 ++ padS 8 z7))) (bytesOf dg) (List.replicate 1 0 ++ (padS 12 z11 ++ Y)) 124 135 (by simp only [List.length_append]; rw [padS_length h0, padS_length h1, padS_length (show z7.size ≤ 8 by decide)]) (by rw [bytesOf_length, h2])
  rw [← this]
  unfold canonA
  have e : padS 12 dg = bytesOf dg ++ List.replicate 1 0 := by rw [padS, h2]
  rw [e]
  simp only [List.append_assoc]
theorem canon_sign (A C : List Int) (c : UInt8) (link : ByteArray) (hA : A.length = 148) (hC : C.length = 8) : rd (A ++ (C ++ canonB ⟨#[c]⟩ link)) 156 = (c.toNat : Int) := by
  have e : canonB ⟨#[c]⟩ link = (c.toNat : Int) :: (padS 100 link ++ (padS 8 us8 ++ List.replicate 247 0)) := rfl
  rw [e, ← List.append_assoc]
  generalize (padS 100 link ++ (padS 8 us8 ++ List.replicate 247 0)) = Y
  unfold rd
  have hl : (A ++ C).length = 156 := by rw [List.length_append]; omega
  rw [show (156 : Int).toNat = 156 from rfl, List.getD_eq_getElem?_getD, List.getElem?_append_right (by omega), hl]
  rfl
theorem canon_link (A C : List Int) (c : UInt8) (link : ByteArray) (hA : A.length = 148) (hC : C.length = 8) (h : link.size ≤ 100) : ((A ++ (C ++ canonB ⟨#[c]⟩ link)).take 257).drop 157 = padS 100 link := by
  have := slice_mid (A ++ (C ++ padS 1 ⟨#[c]⟩)) (padS 100 link) (padS 8 us8 ++ List.replicate 247 0) 157 257 (by simp only [List.length_append]; rw [padS_length (show (⟨#[c]⟩ : ByteArray).size ≤ 1 from Nat.le_refl 1)]; omega) (by rw [padS_length h])
  rw [← this]
  unfold canonB
  simp only [List.append_assoc]
theorem kind_back (a : Int) (h1 : 1 ≤ a) (h5 : a ≤ 5) : kindR ((signR a).toNat : Int) (modeR a) = a := by
  rcases kinds a h1 h5 with rfl | rfl | rfl | rfl | rfl <;> decide +kernel
theorem modeR_zero (a : Int) : (0 : UInt8) ∉ (modeR a).data.toList := by
  unfold modeR
  split
  · decide
  split <;> decide
theorem octP_digits : ∀ n u, ∀ c ∈ octP n u, c ≠ 0
  | 0, _, c, h => by cases h
  | n + 1, u, c, h => by
    rw [octP] at h
    rcases List.mem_append.1 h with h | h
    · exact octP_digits n _ c h
    · obtain rfl := List.mem_singleton.1 h
      have h8 : u % 8 < 8 := Nat.mod_lt _ (by omega)
      have := dch_oct (u % 8) h8
      intro e
      rw [e] at this
      have : (0 : UInt8).toNat = 0 := rfl
      omega
theorem reads_back (a0 : ByteArray) (a1 : Int) (n : Nat) (a3 : ByteArray) (hm : MayR a0 a1 n a3) (hn : n < 8589934592) :
    readN (layB a0 a1 n a3) = a0 ∧ readK (layB a0 a1 n a3) = a1 ∧ readS (layB a0 a1 n a3) = (n : Int) ∧ readL (layB a0 a1 n a3) = a3 ∧ ofOctR (strOfNums (((layB a0 a1 n a3).take 135).drop 124)) = ((n : Int), true) := by
  have s1 : (modeR a1).size ≤ 8 := by rw [modeR_size]; omega
  have s2 : (⟨(octP 11 n).toArray⟩ : ByteArray).size ≤ 12 := by rw [size_mk, octP_length]; omega
  have s22 : (⟨(octP 11 n).toArray⟩ : ByteArray).size = 11 := by rw [size_mk, octP_length]
  have h0 := hm.2.1
  have h3 := hm.2.2.2.1
  have lA := canonA_length a0 (modeR a1) ⟨(octP 11 n).toArray⟩ h0 s1 s2
  have lC := ckOf_length (ckSum (canonA a0 (modeR a1) ⟨(octP 11 n).toArray⟩) (canonB ⟨#[signR a1]⟩ a3))
  have ho := ofOct_octP 11 n (by omega) (by omega) hn
  rw [layB_canon a0 a1 n a3 h0 h3]
  generalize ckOf (ckSum (canonA a0 (modeR a1) ⟨(octP 11 n).toArray⟩) (canonB ⟨#[signR a1]⟩ a3)) = C at *
  unfold readN readK readS readL
  rw [canon_take100 _ _ _ _ h0, canon_mode _ _ _ _ h0 s1, canon_size _ _ _ _ h0 s1 s2, canon_size11 _ _ _ _ h0 s1 s22, canon_sign _ _ _ _ lA lC, canon_link _ _ _ _ lA lC h3, field_pad _ _ hm.2.2.1, field_pad _ _ (modeR_zero a1), field_pad _ _ (fun x => octP_digits 11 n 0 x rfl), field_pad _ _ hm.2.2.2.2.1, kind_back a1 hm.2.2.2.2.2.1 hm.2.2.2.2.2.2.1, str_bytesOf, ho]
  exact ⟨rfl, rfl, rfl, rfl, rfl⟩
theorem layR_true {a0 : ByteArray} {a1 a2 : Int} {a3 : ByteArray} {b : List Int} (h : layR a0 a1 a2 a3 = (b, true)) : ∃ n : Nat, a2 = n ∧ MayR a0 a1 n a3 ∧ n < 8589934592 ∧ b = layB a0 a1 n a3 := by
  unfold layR at h
  split at h
  · rename_i hc
    obtain ⟨n, rfl⟩ := Int.eq_ofNat_of_zero_le hc.2.1
    exact ⟨n, rfl, hc.1, by have := hc.2.2; omega, ((Prod.mk.inj h).1).symm⟩
  · cases (Prod.mk.inj h).2
theorem readR_of_lay {a0 : ByteArray} {a1 a2 : Int} {a3 : ByteArray} {b : List Int} (h : layR a0 a1 a2 a3 = (b, true)) : readR b = (a0, a1, a2, a3, true) ∧ ofOctR (strOfNums ((b.take 135).drop 124)) = (a2, true) ∧ b.length = 512 ∧ readN b = a0 ∧ readL b = a3 := by
  obtain ⟨n, hn2, hm, hn, hb⟩ := layR_true h
  have hall := reads_back a0 a1 n a3 hm hn
  have hl := layB_length a0 a1 n a3 hm.2.1 hm.2.2.2.1
  rw [← hb] at hall hl
  rw [← hn2] at hall
  clear hb
  obtain ⟨e0, e1, e2, e3, e4⟩ := hall
  refine ⟨?_, e4, hl, e0, e3⟩
  have ht : Told b := by
    refine ⟨hl, ?_⟩
    rw [e0, e1, e2, e3]
    exact h
  unfold readR
  rw [if_pos ht, e0, e1, e2, e3]
theorem readR_true {b : List Int} {a0 : ByteArray} {a1 a2 : Int} {a3 : ByteArray} (h : readR b = (a0, a1, a2, a3, true)) : layR a0 a1 a2 a3 = (b, true) := by
  unfold readR at h
  split at h
  · rename_i ht
    simp only [Prod.mk.injEq] at h
    obtain ⟨rfl, rfl, rfl, rfl, _⟩ := h
    exact ht.2
  · simp only [Prod.mk.injEq] at h
    cases h.2.2.2.2
theorem readR_or (b : List Int) : readR b = (⟨#[]⟩, 0, 0, ⟨#[]⟩, false) ∨ ∃ a0 a1 a2 a3, readR b = (a0, a1, a2, a3, true) := by
  unfold readR
  split
  · exact Or.inr ⟨_, _, _, _, rfl⟩
  · exact Or.inl rfl
theorem ref_read_l0 (b : List Int) (h : Bytes b) (n : Int) (hn : n = (ofOctR (strOfNums ((b.take 135).drop 124))).1) : ∀ (d : Nat) (j : Int), 6 - j = d → 1 ≤ j → (∀ i, 1 ≤ i → i < j → layR (readN b) i n (readL b) ≠ (b, true)) →
    Ev (fun k => hogsheadref12_Read.l0 k b (readN b) (readL b) n j) (readR b) := by
  have hr : n < 9223372036854775808 := by rw [hn]; exact (ofOctR_range _).2
  intro d
  induction d with
  | zero =>
    intro j hd h1 hno
    refine ⟨1, fun k hk => ?_⟩
    obtain ⟨k, rfl⟩ : ∃ m, k = m + 1 := ⟨k - 1, by omega⟩
    simp only [hogsheadref12_Read.l0]
    rw [if_neg (by omega)]
    rcases readR_or b with e | ⟨a0, a1, a2, a3, e⟩
    · rw [e]
    · have hl := readR_true e
      obtain ⟨_, e2, _, e3, e4⟩ := readR_of_lay hl
      obtain ⟨m, _, hm, _, _⟩ := layR_true hl
      exact absurd (by rw [hn, e2, e3, e4]; exact hl) (hno a1 hm.2.2.2.2.2.1 (by have := hm.2.2.2.2.2.2.1; omega))
  | succ d ih =>
    intro j hd h1 hno
    obtain ⟨K1, k1⟩ := ref_lay_eq (readN b) j n (readL b) hr
    by_cases e : layR (readN b) j n (readL b) = (b, true)
    · refine ⟨K1 + 1, fun k hk => ?_⟩
      obtain ⟨k, rfl⟩ : ∃ m, k = m + 1 := ⟨k - 1, by omega⟩
      have k1 := k1 k (by omega)
      simp only at k1
      simp only [hogsheadref12_Read.l0]
      rw [if_pos (by omega), k1, e]
      simp only [Option.bind_some, if_true]
      rw [(readR_of_lay e).1]
    · obtain ⟨K2, k2⟩ := ih (j + 1) (by omega) (by omega) (fun i hi1 hi2 => by
        by_cases ei : i = j
        · rw [ei]; exact e
        · exact hno i hi1 (by omega))
      refine ⟨K1 + K2 + 1, fun k hk => ?_⟩
      obtain ⟨k, rfl⟩ : ∃ m, k = m + 1 := ⟨k - 1, by omega⟩
      have k1 := k1 k (by omega)
      have k2 := k2 k (by omega)
      simp only at k1 k2
      have ew : wrap64 (j + 1) = j + 1 := by unfold wrap64; omega
      simp only [hogsheadref12_Read.l0]
      rw [if_pos (by clear ew; omega), k1, ew, k2]
      simp only [Option.bind_some]
      by_cases e2 : (layR (readN b) j n (readL b)).2 = true
      · rw [if_pos e2, if_neg (fun x => e (Prod.ext ((str_toList_inj _ _ (layR_Bytes _ _ _ _) h).1 x) e2))]
      · rw [if_neg e2]
theorem ref_read_eq (b : List Int) (h : Bytes b) : Ev (fun k => hogsheadref12_Read.f k b) (readR b) := by
  by_cases hl : b.length = 512
  rotate_left
  · refine ⟨0, fun k hk => ?_⟩
    show hogsheadref12_Read.f k b = _
    unfold hogsheadref12_Read.f readR
    rw [if_neg (by omega), if_neg (fun x => hl x.1)]
  obtain ⟨K1, k1⟩ := ref_ofOctal_eq (strOfNums ((b.take 135).drop 124))
  obtain ⟨K2, k2⟩ := ref_field_eq (b.take 100) (by rw [List.length_take]; omega)
  obtain ⟨K3, k3⟩ := ref_field_eq ((b.take 257).drop 157) (by rw [List.length_drop, List.length_take]; omega)
  obtain ⟨K4, k4⟩ := ref_read_l0 b h _ rfl 5 1 (by omega) (by omega) (fun i h1 h2 => by omega)
  refine ⟨K1 + K2 + K3 + K4, fun k hk => ?_⟩
  have k1 := k1 k (by omega)
  have k2 := k2 k (by omega)
  have k3 := k3 k (by omega)
  have k4 := k4 k (by omega)
  simp only at k1 k2 k3 k4
  show hogsheadref12_Read.f k b = _
  unfold hogsheadref12_Read.f
  rw [if_pos (by omega), if_pos (by omega), k2]
  simp only [Option.bind_some]
  rw [if_pos (by decide), if_pos (by omega), k3]
  simp only [Option.bind_some]
  rw [if_pos (by decide), if_pos (by omega), k1]
  simp only [Option.bind_some]
  exact k4
end Go.Proofs.YtdijnmcfpbceaaaGreatDoor.X

namespace Go.Proofs.YtdijnmcfpbceaaaGreatDoor.X
open Go.RowKit Go.Proofs.YtdijnmcfpbceaaaGreatDoorW.PrintWords Go.Proofs.YtdijnmcfpbceaaaGreatDoorW.PrintLast Go.Proofs.YtdijnmcfpbceaaaGreatDoorW.PrintMore Go.Proofs.YtdijnmcfpbceaaaGreatDoor.P
set_option linter.unusedVariables false
set_option linter.unusedSimpArgs false
structure EntOk (e : EntT) : Prop where
  may : MayR e.name e.kind (e.data.size : Int) e.link
  small : e.data.size ≤ 10000
  pax : e.kind = 5 → e.name = ⟨#[112, 97, 120]⟩
theorem entry_read {e : EntT} (h : EntOk e) : readR ((entryB e).take 512) = (e.name, e.kind, (e.data.size : Int), e.link, true) := by
  have hs := h.small
  have hl : layR e.name e.kind (e.data.size : Int) e.link = (layB e.name e.kind e.data.size e.link, true) := by
    unfold layR
    rw [if_pos ⟨h.may, by omega, by rw [Int.toNat_natCast]; omega⟩, Int.toNat_natCast]
  have h5 := layB_length e.name e.kind e.data.size e.link h.may.2.1 h.may.2.2.2.1
  have ht : (entryB e).take 512 = layB e.name e.kind e.data.size e.link := by
    unfold entryB
    rw [hl]
    show (layB e.name e.kind e.data.size e.link ++ _).take 512 = _
    rw [← h5, List.take_left]
  rw [ht]
  exact (readR_of_lay hl).1
theorem ents_ok1 {n : S47} (h : goodN n = true) : ∀ e ∈ entsN n, EntOk e := by
  intro e he
  have hx := extra_size h
  have hd := own_may h
  have hk := good_kinds h
  unfold entsN at he
  rcases List.mem_append.1 he with h1 | h1
  · split at h1
    · cases h1
    · rename_i hz
      rw [List.mem_singleton] at h1
      subst h1
      refine ⟨pax_may _, ?_, fun _ => rfl⟩
      show (extraN n).size ≤ 10000
      split at hx <;> omega
  · rw [List.mem_singleton] at h1
    subst h1
    refine ⟨hd.1, by have := hd.2; omega, fun e => ?_⟩
    have e1 : (ownE n).kind = n.f1 := by unfold ownE; split <;> rfl
    rw [e1] at e
    omega
theorem tarB_at {t : List S47} : tarB t = (entsT t).flatMap entryB ++ List.replicate 1024 0 := rfl
theorem bytes_rep (n : Nat) : Bytes (List.replicate n 0) := by
  intro x hx
  rw [(List.mem_replicate.1 hx).2]
  omega
theorem entryB_Bytes (e : EntT) : Bytes (entryB e) := by
  unfold entryB
  exact (layR_Bytes _ _ _ _).append ((bytesOf_Bytes _).append (bytes_rep _))
theorem tarB_Bytes (t : List S47) : Bytes (tarB t) := by
  rw [tarB_at]
  refine Bytes.append (fun x hx => ?_) (bytes_rep _)
  obtain ⟨e, _, hx⟩ := List.mem_flatMap.1 hx
  exact entryB_Bytes e x hx
theorem bytes_cut {l : List Int} (h : Bytes l) (a b : Nat) : Bytes ((l.take b).drop a) := fun x hx => h x (List.mem_of_mem_take (List.mem_of_mem_drop hx))
end Go.Proofs.YtdijnmcfpbceaaaGreatDoor.X

namespace Go.Proofs.YtdijnmcfpbceaaaGreatDoor.X
open Go.RowKit Go.Proofs.YtdijnmcfpbceaaaGreatDoorW.PrintWords Go.Proofs.YtdijnmcfpbceaaaGreatDoorW.PrintLast Go.Proofs.YtdijnmcfpbceaaaGreatDoorW.PrintMore
set_option linter.unusedVariables false
set_option linter.unusedSimpArgs false
theorem digitVal_num (c : UInt8) (h : 48 ≤ c.toNat ∧ c.toNat ≤ 57) : Lib.digitVal c = some (c.toNat - 48) := by
  unfold Lib.digitVal
  rw [if_pos h]
theorem decFrom_num : ∀ (l : List UInt8) (acc : Nat), (∀ c ∈ l, 48 ≤ c.toNat ∧ c.toNat ≤ 57) → Lib.decFrom acc l = some (numL l acc)
  | [], acc, _ => rfl
  | c :: l, acc, h => by
    rw [Lib.decFrom, digitVal_num c (h c List.mem_cons_self)]
    exact decFrom_num l _ fun x hx => h x (List.mem_cons_of_mem _ hx)
theorem decNat_dec (u : Nat) : Lib.decNat (Lib.decDigits u) = some u := by
  unfold Lib.decNat
  have h := lenD_pos u
  unfold lenD at h
  have hne : (Lib.decDigits u).isEmpty = false := by
    cases hd : Lib.decDigits u with
    | nil => rw [hd] at h; simp at h
    | cons a l => rfl
  rw [hne, decFrom_num _ _ (dec_digit u), numL_dec]
  rfl
theorem itoa_negA (n : Int) (h : n < 0) : Lib.itoa n = 45 :: Lib.decDigits n.natAbs := by
  rw [show n = -((n.natAbs : Nat) : Int) from by omega, Lib.itoa_neg _ (by omega)]
  congr 2
  omega
theorem atoi_itoa (n : Int) : Lib.atoi (Lib.itoa n) = some n := by
  rcases Int.lt_or_le n 0 with h | h
  · rw [itoa_negA n h]
    unfold Lib.atoi
    dsimp only
    rw [if_pos (by rfl), decNat_dec]
    show some (-((n.natAbs : Nat) : Int)) = _
    congr 1
    omega
  · obtain ⟨u, rfl⟩ := Int.eq_ofNat_of_zero_le h
    rw [Lib.itoa_nonneg]
    have hd := dec_digit u
    have h1 := decNat_dec u
    have h2 := lenD_pos u
    unfold lenD at h2
    cases hl : Lib.decDigits u with
    | nil => rw [hl] at h2; simp at h2
    | cons a l =>
      rw [hl] at hd h1
      have ha := hd a List.mem_cons_self
      have e1 : (a == 45) = false := by
        rw [beq_eq_false_iff_ne]
        intro e
        rw [e] at ha
        exact absurd ha.1 (by decide)
      have e2 : (a == 43) = false := by
        rw [beq_eq_false_iff_ne]
        intro e
        rw [e] at ha
        exact absurd ha.1 (by decide)
      unfold Lib.atoi
      dsimp only
      rw [e1, e2, h1]
      rfl
theorem itoa_len18 (n : Int) (h0 : -9007199254740992 ≤ n) (h1 : n ≤ 9007199254740992) : (Lib.itoa n).length ≤ 18 := by
  have hl : ∀ u : Nat, u ≤ 9007199254740992 → (Lib.decDigits u).length ≤ 17 := fun u hu => lenD_le 16 u (by
    have : (10 : Nat) ^ (16 + 1) = 100000000000000000 := by decide
    omega)
  rcases Int.lt_or_le n 0 with h | h
  · rw [itoa_negA n h, List.length_cons]
    have := hl n.natAbs (by omega)
    omega
  · obtain ⟨u, rfl⟩ := Int.eq_ofNat_of_zero_le h
    rw [Lib.itoa_nonneg]
    have := hl u (by omega)
    omega
theorem atoiAll_itoa (n : Int) (h0 : -9007199254740992 ≤ n) (h1 : n ≤ 9007199254740992) : Lib.atoiAll (Lib.itoa n) = .ok n := by
  rw [Lib.atoiAll_short _ (itoa_len18 n h0 h1), atoi_itoa]
  rfl
end Go.Proofs.YtdijnmcfpbceaaaGreatDoor.X

namespace Go.Proofs.YtdijnmcfpbceaaaGreatDoor.X
open Go.RowKit Go.Proofs.YtdijnmcfpbceaaaGreatDoorW.PrintWords Go.Proofs.YtdijnmcfpbceaaaGreatDoorW.PrintLast Go.Proofs.YtdijnmcfpbceaaaGreatDoorW.PrintMore Go.Proofs.YtdijnmcfpbceaaaGreatDoor.P
set_option linter.unusedVariables false
set_option linter.unusedSimpArgs false
theorem indexByte_app (c : UInt8) (r : List UInt8) : ∀ a : List UInt8, c ∉ a → Lib.indexByte (a ++ c :: r) c = (a.length : Int)
  | [], _ => by
    show Lib.indexByte (c :: r) c = _
    unfold Lib.indexByte
    rw [if_pos (by simp)]
    rfl
  | b :: a, h => by
    have h1 : b ≠ c := fun e => h (by simp [e])
    have ih := indexByte_app c r a (fun e => h (List.mem_cons_of_mem _ e))
    show Lib.indexByte (b :: (a ++ c :: r)) c = _
    unfold Lib.indexByte
    rw [if_neg (by simpa using h1), ih, if_neg (by simp <;> omega)]
    simp
theorem cut_app (c : UInt8) (a r : List UInt8) (h : c ∉ a) : Lib.cut (a ++ c :: r) [c] = (a, r, true) := by
  unfold Lib.cut
  rw [Lib.index_one, indexByte_app c r a h, if_pos (by omega), Int.toNat_natCast, List.take_left]
  congr 2
  rw [show a.length + [c].length = (a ++ [c]).length from by simp, show a ++ c :: r = (a ++ [c]) ++ r from by simp, List.drop_left]
def takeM (st : List Int × Bool) (n : Int) : List Int × (List Int × Bool) :=
  if st.2 = true ∨ n < 0 ∨ (st.1.length : Int) < n then ([], (st.1, true)) else (st.1.take n.toNat, (st.1.drop n.toNat, false))
def entryM (st : List Int × Bool) : EntT × (List Int × Bool) :=
  let a := takeM st 512
  let h := readR a.1
  let b := takeM (a.2.1, a.2.2 || !h.2.2.2.2) h.2.2.1
  let c := takeM b.2 ((512 - h.2.2.1.tmod 512).tmod 512)
  (⟨h.1, h.2.1, h.2.2.2.1, strOfNums b.1⟩, c.2)
def trimM (s : ByteArray) : ByteArray := ⟨(Lib.trimSuffix s.data.toList [10]).toArray⟩
def recordM (s : ByteArray) : ByteArray × ByteArray × ByteArray × Bool :=
  let d := (Lib.cut s.data.toList [32]).1
  match Lib.atoiAll d with
  | .ok n => if n ≤ (d.length : Int) ∨ (s.size : Int) < n then (⟨#[]⟩, ⟨#[]⟩, ⟨#[]⟩, false) else
    let m := Lib.cut ((s.data.toList.take n.toNat).drop (d.length + 1)) [61]
    (⟨m.1.toArray⟩, trimM ⟨m.2.1.toArray⟩, ⟨(s.data.toList.drop n.toNat).toArray⟩, m.2.2)
  | _ => (⟨#[]⟩, ⟨#[]⟩, ⟨#[]⟩, false)
def putM (x : EntT) (key value : ByteArray) : EntT := if key = pathS then { x with name := value } else { x with link := value }
def toldM : Nat → EntT → ByteArray → EntT × Bool
  | 0, x, _ => (x, true)
  | f + 1, x, e => if e.size = 0 then (x, false) else
    let r := recordM e
    if r.2.2.2 = false then (x, true) else toldM f (putM x r.1 r.2.1) r.2.2.1
def dotS : ByteArray := ⟨#[46]⟩
def nodeX (x : EntT) : S47 := ⟨if x.name = dotS then ⟨#[]⟩ else x.name, x.kind, x.data ++ x.link⟩
def nodeM (st : List Int × Bool) : S47 × (List Int × Bool) :=
  let a := entryM st
  if a.1.kind = 5 then
    let b := entryM a.2
    let c := toldM (a.1.data.size + 1) b.1 a.1.data
    (nodeX c.1, (b.2.1, b.2.2 || c.2))
  else (nodeX a.1, a.2)
def endedM (l : List Int) : Bool := decide (l.length = 1024) && l.all (· == 0)
def readM : Nat → List Int × Bool → List S47 → List S47 × Bool
  | 0, st, t => (t, st.2)
  | f + 1, st, t => if st.2 = true ∨ endedM st.1 = true ∨ 400 < t.length then (t, st.2) else readM f (nodeM st).2 (t ++ [(nodeM st).1])
def untR (b : List Int) : List S47 × Int :=
  let r := readM 402 (b, false) []
  if r.2 = false ∧ treeB r.1 = true ∧ tarB r.1 = b then (r.1, 0) else ([], 5)
theorem takeM_ok (a r : List Int) : takeM (a ++ r, false) (a.length : Int) = (a, (r, false)) := by
  unfold takeM
  rw [if_neg (by simp; omega), Int.toNat_natCast, List.take_left, List.drop_left]
theorem entryM_ok {e : EntT} (h : EntOk e) (r : List Int) : entryM (entryB e ++ r, false) = (e, (r, false)) := by
  have hs := h.small
  have hl : layR e.name e.kind (e.data.size : Int) e.link = (layB e.name e.kind e.data.size e.link, true) := by
    unfold layR
    rw [if_pos ⟨h.may, by omega, by rw [Int.toNat_natCast]; omega⟩, Int.toNat_natCast]
  have h5 := layB_length e.name e.kind e.data.size e.link h.may.2.1 h.may.2.2.2.1
  have he : entryB e = layB e.name e.kind e.data.size e.link ++ (bytesOf e.data ++ List.replicate (padN e.data.size) 0) := by
    unfold entryB
    rw [hl]
  have hr := (readR_of_lay hl).1
  generalize layB e.name e.kind e.data.size e.link = L at *
  have e1 : takeM (entryB e ++ r, false) 512 = (L, (bytesOf e.data ++ (List.replicate (padN e.data.size) 0 ++ r), false)) := by
    have := takeM_ok L (bytesOf e.data ++ (List.replicate (padN e.data.size) 0 ++ r))
    rw [h5] at this
    rw [he, List.append_assoc, List.append_assoc]
    exact this
  have e2 : takeM (bytesOf e.data ++ (List.replicate (padN e.data.size) 0 ++ r), false) (e.data.size : Int) = (bytesOf e.data, (List.replicate (padN e.data.size) 0 ++ r, false)) := by
    have := takeM_ok (bytesOf e.data) (List.replicate (padN e.data.size) 0 ++ r)
    rw [bytesOf_length] at this
    exact this
  have e3 : takeM (List.replicate (padN e.data.size) (0 : Int) ++ r, false) ((512 - ((e.data.size : Nat) : Int).tmod 512).tmod 512) = (List.replicate (padN e.data.size) 0, (r, false)) := by
    have := takeM_ok (List.replicate (padN e.data.size) (0 : Int)) r
    rw [List.length_replicate] at this
    have ep : (512 - ((e.data.size : Nat) : Int).tmod 512).tmod 512 = ((padN e.data.size : Nat) : Int) := by
      have a1 : ((e.data.size : Nat) : Int).tmod 512 = ((e.data.size % 512 : Nat) : Int) := rfl
      rw [a1, show (512 - ((e.data.size % 512 : Nat) : Int)) = ((512 - e.data.size % 512 : Nat) : Int) from by omega]
      rfl
    rw [ep]
    exact this
  unfold entryM
  simp only [e1, hr, Bool.not_true, Bool.or_false, e2, e3]
  rw [str_bytesOf]
theorem extract_toList (l : List UInt8) : (⟨l.toArray⟩ : ByteArray).data.toList = l := rfl
theorem dec_no32 (u : Nat) : (32 : UInt8) ∉ Lib.decDigits u := fun h => by
  have := (dec_digit u 32 h).1
  exact absurd this (by decide)
theorem atoiAll_dec (u : Nat) (h : u ≤ 1000000) : Lib.atoiAll (Lib.decDigits u) = .ok (u : Int) := by
  have := atoiAll_itoa (u : Int) (by omega) (by omega)
  rw [Lib.itoa_nonneg] at this
  exact this
theorem trimM_nl (l : List UInt8) : trimM ⟨(l ++ [10]).toArray⟩ = ⟨l.toArray⟩ := by
  unfold trimM Lib.trimSuffix Lib.hasSuffix
  rw [extract_toList, if_pos (by simp), List.length_append]
  simp
theorem recordM_ok (key value : ByteArray) (r : List UInt8) (hk : (61 : UInt8) ∉ key.data.toList) (hs : key.size + value.size ≤ 800000) : recordM ⟨((recT key value).data.toList ++ r).toArray⟩ = (key, value, ⟨r.toArray⟩, true) := by
  have hsz := (recT_size key value hs)
  have hm := recB_length key.data.toList value.data.toList (by rw [data_length, data_length]; exact hs)
  have hM := recM_gt (key.size + value.size + 3) (by omega)
  have hS := (recM_spec (key.size + value.size + 3) (by omega)).1
  rw [data_length, data_length] at hm
  have hl : (recT key value).data.toList = Lib.decDigits (recM (key.size + value.size + 3)) ++ 32 :: (key.data.toList ++ 61 :: (value.data.toList ++ [10])) := by
    show recB _ _ = _
    unfold recB
    rw [data_length, data_length]
    simp
  have hl2 : (recT key value).data.toList.length = recM (key.size + value.size + 3) := hm
  generalize hMM : recM (key.size + value.size + 3) = M at *
  have hd := dec_no32 M
  have ha := atoiAll_dec M (by omega)
  have hdl : lenD M = (Lib.decDigits M).length := rfl
  generalize Lib.decDigits M = D at *
  generalize hT : (recT key value).data.toList = T at *
  unfold recordM
  simp only [extract_toList]
  have c1 : Lib.cut (T ++ r) [32] = (D, key.data.toList ++ 61 :: (value.data.toList ++ [10]) ++ r, true) := by
    rw [hl]
    have := cut_app 32 D (key.data.toList ++ 61 :: (value.data.toList ++ [10]) ++ r) hd
    rw [← this]
    congr 1
    simp
  have c2 : ((T ++ r).take M).drop (D.length + 1) = key.data.toList ++ 61 :: (value.data.toList ++ [10]) := by
    rw [← hl2, List.take_left, hl, show D.length + 1 = (D ++ [32]).length from by simp, show D ++ 32 :: (key.data.toList ++ 61 :: (value.data.toList ++ [10])) = (D ++ [32]) ++ (key.data.toList ++ 61 :: (value.data.toList ++ [10])) from by simp, List.drop_left]
  have c3 : (T ++ r).drop M = r := by rw [← hl2, List.drop_left]
  rw [c1]
  simp only [ha]
  have hz : (⟨(T ++ r).toArray⟩ : ByteArray).size = (T ++ r).length := size_mk _
  rw [if_neg (by rw [hz, List.length_append]; omega), Int.toNat_natCast, c2, c3, cut_app 61 _ _ hk]
  simp only
  rw [trimM_nl]
end Go.Proofs.YtdijnmcfpbceaaaGreatDoor.X

namespace Go.Proofs.YtdijnmcfpbceaaaGreatDoor.X
open Go.RowKit Go.Proofs.YtdijnmcfpbceaaaGreatDoorW.PrintWords Go.Proofs.YtdijnmcfpbceaaaGreatDoorW.PrintLast Go.Proofs.YtdijnmcfpbceaaaGreatDoorW.PrintMore Go.Proofs.YtdijnmcfpbceaaaGreatDoor.P
set_option linter.unusedVariables false
set_option linter.unusedSimpArgs false
def UAt (w0 w : World) (gr : Nat) (st : List Int × Bool) : Prop := ∃ A c, w.heap[gr]? = some (.cells #[.slice A st.1.length c, .bool st.2] 68 (0, 0)) ∧ st.1.length ≤ c ∧ (Kd.int .u8).C w0 A st.1.length st.1
theorem UAt.keep {w0 w w1 : World} {gr : Nat} {st : List Int × Bool} (h : UAt w0 w gr st) (hk : w1.heap[gr]? = w.heap[gr]?) : UAt w0 w1 gr st := by
  obtain ⟨A, c, h1, h2, h3⟩ := h
  exact ⟨A, c, hk.trans h1, h2, h3⟩
theorem UAt.lt {w0 w : World} {gr : Nat} {st : List Int × Bool} (h : UAt w0 w gr st) : gr < w.heap.size := by
  obtain ⟨A, c, h1, h2, h3⟩ := h
  exact blk_lt h1
set_option maxHeartbeats 4000000 in
set_option maxRecDepth 100000 in
theorem take_calls (w0 : World) (gr : Nat) (l : List Int) (b : Bool) (n : Int) (w : World) (h : UAt w0 w gr (l, b)) (hl : l.length ≤ 1000000) (hn : n ≤ 9223372036854775807) :
    Calls Tryz.prog 74 #[.pointer (some ⟨gr, 0, none⟩), .int .i64 n] w fun e w' => ∃ A1 c1, e = .returned (.slice A1 (takeM (l, b) n).1.length c1) ∧ (takeM (l, b) n).1.length ≤ c1 ∧ (Kd.int .u8).C w0 A1 (takeM (l, b) n).1.length (takeM (l, b) n).1 ∧ UAt w0 w' gr (takeM (l, b) n).2 ∧ StepG w w' gr none := by
  obtain ⟨A, c, hz, hc, hC⟩ := h
  dsimp only at hz hc hC
  have HZ := Aside0.mk hz
  have HC := Aside0.mk hC
  have z0 : w.cell? ⟨gr, 0, none⟩ = some (.slice A l.length c) := (blk_cell hz 0).trans rfl
  have z1 : w.cell? ⟨gr, 1, none⟩ = some (.bool b) := (blk_cell hz 1).trans rfl
  have hfz := fun k => blk_frozen hz k
  clear hz hC
  obtain ⟨R, hR⟩ : ∃ R, takeM (l, b) n = R := ⟨_, rfl⟩
  have HR := Aside0.mk hR
  rw [hR]
  clear hR
  obtain ⟨b1, hb1⟩ : ∃ b, decide (n < 0) = b := ⟨_, rfl⟩
  obtain ⟨b2, hb2⟩ : ∃ b, decide ((l.length : Int) < n) = b := ⟨_, rfl⟩
  go_enter Tryz.func74, Tryz.ntmps74
  cases hbb : (b || (b1 || b2)) with
  | true =>
    have HM := Aside0.mk (show R = ([], (l, true)) from by
      rw [← HR.out]
      unfold takeM
      rw [if_pos]
      rcases Bool.or_eq_true _ _ ▸ hbb with h | h
      · exact .inl h
      · rcases Bool.or_eq_true _ _ ▸ h with h | h
        · rw [h] at hb1
          exact .inr (.inl (of_decide_eq_true hb1))
        · rw [h] at hb2
          exact .inr (.inr (of_decide_eq_true hb2)))
    have HZ2 := Aside0.mk (show (w.setCell ⟨gr, 1, none⟩ (.bool true)).heap[gr]? = some (.cells #[.slice A l.length c, .bool true] 68 (0, 0)) from blk_set HZ.out 1 _)
    have HS := Aside0.mk (StepG.set (StepG.of_below (sb := gr) (r := none) (Below.refl w.heap.size w)) 1 (.bool true))
    have HF := Aside0.mk (show ∀ e w', e = .returned (.slice none 0 0) → w' = w.setCell ⟨gr, 1, none⟩ (.bool true) → ∃ A1 c1, e = Ending.returned (.slice A1 R.1.length c1) ∧ R.1.length ≤ c1 ∧ (Kd.int .u8).C w0 A1 R.1.length R.1 ∧ UAt w0 w' gr R.2 ∧ StepG w w' gr none from fun e w' h1 h2 => by
      rw [HM.out, h1, h2]
      exact ⟨none, 0, rfl, Nat.le_refl _, ⟨rfl, by simp, fun h => absurd h (by simp)⟩, ⟨A, c, HZ2.out, hc, HC.out⟩, HS.out⟩)
    clear HM HZ2 HS
    cases b <;> cases b1 <;> cases b2 <;> first
    | (cases hbb; done)
    | (clear hbb
       go_wp2_with fail
       go_ret
       exact HF.out _ _ rfl rfl)
  | false =>
    obtain rfl : b = false := by cases b <;> first | rfl | cases hbb
    obtain rfl : b1 = false := by cases b1 <;> first | rfl | cases hbb
    obtain rfl : b2 = false := by cases b2 <;> first | rfl | cases hbb
    clear hbb
    obtain ⟨m, rfl⟩ := Int.eq_ofNat_of_zero_le (show 0 ≤ n by have := of_decide_eq_false hb1; omega)
    have hm : m ≤ l.length := by have := of_decide_eq_false hb2; omega
    have HM := Aside0.mk (show R = (l.take m, (l.drop m, false)) from by
      rw [← HR.out]
      unfold takeM
      rw [if_neg (by simp; omega), Int.toNat_natCast])
    have hlt : (l.take m).length = m := by rw [List.length_take]; omega
    have hld : (l.drop m).length = l.length - m := List.length_drop
    have HCt := Aside0.mk (Kd.C_take HC.out hm)
    have HCd := Aside0.mk (Kd.C_drop HC.out hm hc)
    have hsz : m * (Kd.int IntKind.u8).sz = m := Nat.mul_one m
    rw [hsz] at HCd
    obtain ⟨A2, hA2⟩ : ∃ A2, (if c = m then A else A.map (·.add m)) = A2 := ⟨_, rfl⟩
    rw [hA2] at HCd
    have HZ2 := Aside0.mk (show (w.setCell ⟨gr, 0, none⟩ (.slice A2 (l.length - m) (c - m))).heap[gr]? = some (.cells #[.slice A2 (l.length - m) (c - m), .bool false] 68 (0, 0)) from blk_set HZ.out 0 _)
    have HS := Aside0.mk (StepG.set (StepG.of_below (sb := gr) (r := none) (Below.refl w.heap.size w)) 0 (.slice A2 (l.length - m) (c - m)))
    have hm0 : 0 ≤ (m : Int) := by omega
    have hmc : m ≤ c := by omega
    rw [hlt] at HCt
    rw [hld] at HCd
    have HF := Aside0.mk (show ∀ e w', e = .returned (.slice A m c) → w' = w.setCell ⟨gr, 0, none⟩ (.slice A2 (l.length - m) (c - m)) → ∃ A1 c1, e = Ending.returned (.slice A1 R.1.length c1) ∧ R.1.length ≤ c1 ∧ (Kd.int .u8).C w0 A1 R.1.length R.1 ∧ UAt w0 w' gr R.2 ∧ StepG w w' gr none from fun e w' h1 h2 => by
      rw [HM.out, h1, h2]
      refine ⟨A, c, ?_, ?_, ?_, ⟨A2, c - m, ?_, ?_, ?_⟩, HS.out⟩
      · rw [hlt]
      · rw [hlt]; exact hmc
      · rw [hlt]; exact HCt.out
      · rw [hld]; exact HZ2.out
      · rw [hld]; omega
      · rw [hld]; exact HCd.out)
    clear HZ2 HS HCt HCd HM HR hsz
    by_cases hcm : c = m
    · rw [if_pos hcm] at hA2
      subst hA2
      subst hcm
      go_wp2_with fail
      go_ret
      exact HF.out _ _ rfl (by rw [Nat.sub_self, show l.length - c = 0 from by omega])
    · rw [if_neg hcm] at hA2
      subst hA2
      go_wp2_with fail
      go_ret
      exact HF.out _ _ rfl rfl
end Go.Proofs.YtdijnmcfpbceaaaGreatDoor.X

namespace Go.Proofs.YtdijnmcfpbceaaaGreatDoor.X
open Go.RowKit Go.Proofs.YtdijnmcfpbceaaaGreatDoorW.PrintWords Go.Proofs.YtdijnmcfpbceaaaGreatDoorW.PrintLast Go.Proofs.YtdijnmcfpbceaaaGreatDoorW.PrintMore Go.Proofs.YtdijnmcfpbceaaaGreatDoor.P
set_option linter.unusedVariables false
set_option linter.unusedSimpArgs false
theorem readR_range (b : List Int) : 0 ≤ (readR b).2.2.1 ∧ (readR b).2.2.1 < 9223372036854775808 := by
  unfold readR
  split
  · exact ofOctR_range _
  · exact ⟨by decide, by decide⟩
theorem takeM_len (st : List Int × Bool) (n : Int) : (takeM st n).1.length ≤ st.1.length ∧ (takeM st n).2.1.length ≤ st.1.length := by
  unfold takeM
  split
  · exact ⟨by simp, Nat.le_refl _⟩
  · exact ⟨by rw [List.length_take]; omega, by rw [List.length_drop]; omega⟩
theorem takeM_Bytes {st : List Int × Bool} (h : Bytes st.1) (n : Int) : Bytes (takeM st n).1 ∧ Bytes (takeM st n).2.1 := by
  unfold takeM
  split
  · exact ⟨(fun x hx => by cases hx), h⟩
  · exact ⟨fun x hx => h x (List.mem_of_mem_take hx), fun x hx => h x (List.mem_of_mem_drop hx)⟩
theorem UAt.set {w0 w : World} {gr : Nat} {l : List Int} {b : Bool} (h : UAt w0 w gr (l, b)) (c : Bool) : UAt w0 (w.setCell ⟨gr, 1, none⟩ (.bool c)) gr (l, c) := by
  obtain ⟨A, k, h1, h2, h3⟩ := h
  exact ⟨A, k, blk_set h1 1 _, h2, h3⟩
theorem UAt.bad {w0 w : World} {gr : Nat} {st : List Int × Bool} (h : UAt w0 w gr st) : w.cell? ⟨gr, 1, none⟩ = some (.bool st.2) ∧ (∀ k, w.frozen? ⟨gr, k, none⟩ = false) := by
  obtain ⟨A, c, h1, h2, h3⟩ := h
  exact ⟨(blk_cell h1 1).trans rfl, fun k => blk_frozen h1 k⟩
theorem StepG.setNew {w w1 : World} {sb : Nat} {r : Option Nat} (h : StepG w w1 sb r) (g : Nat) (hg : w.heap.size ≤ g) (o : Nat) (v : Value) : StepG w (w1.setCell ⟨g, o, none⟩ v) sb r :=
  ⟨h.os, h.tape, h.output, by rw [sizeG]; exact h.size, fun k hk hs hne => (Below.heap_setCell w1 ⟨g, o, none⟩ v k (by show k ≠ g; omega)).trans (h.block k hk hs hne)⟩
set_option maxHeartbeats 4000000 in
set_option maxRecDepth 100000 in
theorem uentry_calls (w0 : World) (gr : Nat) (l : List Int) (b : Bool) (w : World) (hT : Aside0 (Tabs w0)) (hgr : w0.heap.size ≤ gr) (hB : Below w0.heap.size w0 w) (h : UAt w0 w gr (l, b)) (hl : l.length ≤ 1000000) (hby : Bytes l) :
    Calls Tryz.prog 52 #[.pointer (some ⟨gr, 0, none⟩)] w fun e w' => e = .returned (.agg #[.string (entryM (l, b)).1.name, .string (entryM (l, b)).1.link, .string (entryM (l, b)).1.data, .int .i64 (entryM (l, b)).1.kind]) ∧ UAt w0 w' gr (entryM (l, b)).2 ∧ StepG w w' gr none := by
  obtain ⟨R, hR⟩ : ∃ R, entryM (l, b) = R := ⟨_, rfl⟩
  rw [hR]
  have HE := Aside0.mk hR
  clear hR
  have hgl := h.lt
  have HB := Aside0.mk (below_alloc hB (.cells #[.string ⟨#[]⟩, .string ⟨#[]⟩, .string ⟨#[]⟩, .int .i64 0] 82))
  have H := Aside0.mk (h.keep (w1 := w.alloc (.cells #[.string ⟨#[]⟩, .string ⟨#[]⟩, .string ⟨#[]⟩, .int .i64 0] 82)) ((below_alloc (Below.refl w.heap.size w) _).block gr hgl))
  have HG := Aside0.mk (blk_new w (.cells #[.string ⟨#[]⟩, .string ⟨#[]⟩, .string ⟨#[]⟩, .int .i64 0] 82))
  have HS0 := Aside0.mk (StepG.of_below (sb := gr) (r := none) (below_alloc (Below.refl w.heap.size w) (.cells #[.string ⟨#[]⟩, .string ⟨#[]⟩, .string ⟨#[]⟩, .int .i64 0] 82)))
  clear hB h
  go_enter Tryz.func52, Tryz.ntmps52
  go_wp2_with fail
  generalize w.alloc (.cells #[.string ⟨#[]⟩, .string ⟨#[]⟩, .string ⟨#[]⟩, .int .i64 0] 82) = w9 at *
  have hge : w.heap.size ≠ gr := by omega
  generalize hgg : w.heap.size = ge at HG hge
  refine (take_calls w0 gr l b 512 w9 H.out hl (by omega)).mono ?_
  rintro e w1 ⟨A1, c1, rfl, hc1, hC1, hU1, hS1⟩
  have HL1 := Aside0.mk (takeM_len (l, b) 512)
  have HY1 := Aside0.mk (takeM_Bytes (st := (l, b)) hby 512)
  obtain ⟨⟨o1, l1, b1⟩, ht1⟩ : ∃ r, takeM (l, b) 512 = r := ⟨_, rfl⟩
  rw [ht1] at hc1 hC1 hU1 HL1 HY1
  rw [ht1]
  have HT1 := Aside0.mk ht1
  dsimp only at *
  have HC1 := Aside0.mk hC1
  have HB1 := Aside0.mk (belowStepG HB.out hS1 hgr (fun k hk => by cases hk))
  have HG1 := Aside0.mk ((hS1.block ge (blk_lt HG.out) hge (by simp)).trans HG.out)
  have HS1 := Aside0.mk (HS0.out.trans hS1 (.inl rfl))
  clear ht1 hS1 hC1
  obtain ⟨KR, hKR⟩ := read_eq o1 HY1.out.1
  obtain ⟨⟨nm, kd, n, lk, ok⟩, hrd⟩ : ∃ r, readR o1 = r := ⟨_, rfl⟩
  have HN := Aside0.mk (readR_range o1)
  have HKR := Aside0.mk (hKR KR (Nat.le_refl _))
  rw [hrd] at HN HKR
  have HRd := Aside0.mk hrd
  dsimp only at HN
  clear hKR hrd
  go_wp2_with fail
  refine (head_Read.calls KR A1 c1 o1 nm kd n lk ok w1 ⟨Tabs.below hT.out HB1.out⟩ (Kd.C_below HC1.out HB1.out) hc1 HKR.out).mono ?_
  rintro e w2 ⟨rfl, hb2⟩
  have HB2 := Aside0.mk (below_step HB1.out hb2)
  have HU2 := Aside0.mk (hU1.keep (hb2.block gr hU1.lt))
  have HG2 := Aside0.mk (blk_below HG1.out hb2)
  have HS2 := Aside0.mk (HS1.out.trans (StepG.of_below hb2) (.inl rfl))
  obtain ⟨z1, hfz⟩ := HU2.out.bad
  dsimp only at z1
  clear hb2 hU1 HG1 HS1 HC1 HKR HB1
  obtain ⟨hn0, hn1⟩ := HN.out
  obtain ⟨bb, hbb⟩ : ∃ bb, (b1 || !ok) = bb := ⟨_, rfl⟩
  have HU3 := Aside0.mk (HU2.out.set bb)
  have HG3 := Aside0.mk ((Below.heap_setCell w2 ⟨gr, 1, none⟩ (.bool bb) ge hge).trans HG2.out)
  have HS3 := Aside0.mk (HS2.out.set 1 (.bool bb))
  have HB3 := Aside0.mk (show Below w0.heap.size w0 (w2.setCell ⟨gr, 1, none⟩ (.bool bb)) from ⟨HB2.out.os, HB2.out.tape, HB2.out.output, by rw [sizeG]; exact HB2.out.size, fun k hk => (Below.heap_setCell w2 ⟨gr, 1, none⟩ _ k (by show k ≠ gr; omega)).trans (HB2.out.block k hk)⟩)
  have hl1 : l1.length ≤ 1000000 := by have := HL1.out.2; omega
  have HBb := Aside0.mk hbb
  have HEM := Aside0.mk (show R = (⟨nm, kd, lk, strOfNums (takeM (l1, bb) n).1⟩, (takeM (takeM (l1, bb) n).2 ((512 - n.tmod 512).tmod 512)).2) from by
    rw [← HE.out]
    unfold entryM
    simp only [HT1.out, HRd.out, HBb.out])
  have hpe : (512 - n.tmod 512).tmod 512 = -(n % 512) % 512 := by
    rw [Int.tmod_eq_emod_of_nonneg hn0, Int.tmod_eq_emod_of_nonneg (by omega)]
    omega
  rw [hpe] at HEM
  clear hpe
  have HL4 := Aside0.mk (takeM_len (l1, bb) n)
  clear HE HT1 HRd HBb
  cases b1 <;> cases ok <;> (
    simp at hbb
    subst hbb
    go_wp2_with fail
    generalize w2.setCell ⟨gr, 1, none⟩ _ = w3 at *
    refine (take_calls w0 gr l1 _ n w3 HU3.out hl1 (by omega)).mono ?_
    rintro e w4 ⟨A2, c2, rfl, hc2, hC2, hU4, hS4⟩
    generalize takeM (l1, _) n = t2 at *
    obtain ⟨o2, l2, b2⟩ := t2
    dsimp only at *
    have HC2 := Aside0.mk hC2
    have HB4 := Aside0.mk (belowStepG HB3.out hS4 hgr (fun k hk => by cases hk))
    have HG4 := Aside0.mk ((hS4.block ge (blk_lt HG3.out) hge (by simp)).trans HG3.out)
    have HS4 := Aside0.mk (HS3.out.trans hS4 (.inl rfl))
    have HU4 := Aside0.mk hU4
    have hcv := show (convert 26 9 (.slice A2 o2.length c2)).run Tryz.prog w4 = .ok (.string (strOfNums o2)) w4 from Kd.C_string Tryz.underlying26 Tryz.underlying5 Tryz.underlying9 (Kd.C_below HC2.out HB4.out)
    have hl2 : l2.length ≤ 1000000 := by have := HL4.out.2; omega
    clear hS4 hU4 hC2 HU3 HG3 HS3 HB3 HL4 z1 hfz
    go_wp2_with fail
    refine (take_calls w0 gr l2 b2 (-(n % 512) % 512) w4 HU4.out hl2 (by omega)).mono ?_
    rintro e w5 ⟨A3, c3, rfl, hc3, hC3, hU5, hS5⟩
    have HU5 := Aside0.mk hU5
    have HG5 := Aside0.mk ((hS5.block ge (blk_lt HG4.out) hge (by simp)).trans HG4.out)
    have HS5 := Aside0.mk (HS4.out.trans hS5 (.inl rfl))
    have hfg := fun k => blk_frozen HG5.out k
    clear hS5 hU5 hC3 hcv HG4 HS4 HB4 HU4 hc3
    generalize takeM (l2, b2) (-(n % 512) % 512) = t3 at *
    have HGa := Aside0.mk (blk_set HG5.out 0 (.string nm))
    have HGb := Aside0.mk (blk_set HGa.out 1 (.string lk))
    have HGc := Aside0.mk (blk_set HGb.out 2 (.string (strOfNums o2)))
    have HGd := Aside0.mk (blk_set HGc.out 3 (.int .i64 kd))
    have y0 := (show w5.cell? ⟨ge, 0, none⟩ = some (.string ⟨#[]⟩) from (blk_cell HG5.out 0).trans rfl)
    have y1 := (show (w5.setCell ⟨ge, 0, none⟩ (.string nm)).cell? ⟨ge, 1, none⟩ = some (.string ⟨#[]⟩) from (blk_cell HGa.out 1).trans rfl)
    have y2 := (show ((w5.setCell ⟨ge, 0, none⟩ (.string nm)).setCell ⟨ge, 1, none⟩ (.string lk)).cell? ⟨ge, 2, none⟩ = some (.string ⟨#[]⟩) from (blk_cell HGb.out 2).trans rfl)
    have y3 := (show (((w5.setCell ⟨ge, 0, none⟩ (.string nm)).setCell ⟨ge, 1, none⟩ (.string lk)).setCell ⟨ge, 2, none⟩ (.string (strOfNums o2))).cell? ⟨ge, 3, none⟩ = some (.int .i64 0) from (blk_cell HGc.out 3).trans rfl)
    have x0 := (show ((((w5.setCell ⟨ge, 0, none⟩ (.string nm)).setCell ⟨ge, 1, none⟩ (.string lk)).setCell ⟨ge, 2, none⟩ (.string (strOfNums o2))).setCell ⟨ge, 3, none⟩ (.int .i64 kd)).cell? ⟨ge, 0, none⟩ = some (.string nm) from (blk_cell HGd.out 0).trans rfl)
    have x1 := (show ((((w5.setCell ⟨ge, 0, none⟩ (.string nm)).setCell ⟨ge, 1, none⟩ (.string lk)).setCell ⟨ge, 2, none⟩ (.string (strOfNums o2))).setCell ⟨ge, 3, none⟩ (.int .i64 kd)).cell? ⟨ge, 1, none⟩ = some (.string lk) from (blk_cell HGd.out 1).trans rfl)
    have x2 := (show ((((w5.setCell ⟨ge, 0, none⟩ (.string nm)).setCell ⟨ge, 1, none⟩ (.string lk)).setCell ⟨ge, 2, none⟩ (.string (strOfNums o2))).setCell ⟨ge, 3, none⟩ (.int .i64 kd)).cell? ⟨ge, 2, none⟩ = some (.string (strOfNums o2)) from (blk_cell HGd.out 2).trans rfl)
    have x3 := (show ((((w5.setCell ⟨ge, 0, none⟩ (.string nm)).setCell ⟨ge, 1, none⟩ (.string lk)).setCell ⟨ge, 2, none⟩ (.string (strOfNums o2))).setCell ⟨ge, 3, none⟩ (.int .i64 kd)).cell? ⟨ge, 3, none⟩ = some (.int .i64 kd) from (blk_cell HGd.out 3).trans rfl)
    have hf1 := fun k => blk_frozen HGa.out k
    have hf2 := fun k => blk_frozen HGb.out k
    have hf3 := fun k => blk_frozen HGc.out k
    have HF := Aside0.mk (show ∀ (e : Ending) (w' : World), e = .returned (.agg #[.string nm, .string lk, .string (strOfNums o2), .int .i64 kd]) → w' = ((((w5.setCell ⟨ge, 0, none⟩ (.string nm)).setCell ⟨ge, 1, none⟩ (.string lk)).setCell ⟨ge, 2, none⟩ (.string (strOfNums o2))).setCell ⟨ge, 3, none⟩ (.int .i64 kd)) → e = .returned (.agg #[.string R.1.name, .string R.1.link, .string R.1.data, .int .i64 R.1.kind]) ∧ UAt w0 w' gr R.2 ∧ StepG w w' gr none from fun e w' h1 h2 => by
      rw [h1, h2, HEM.out]
      refine ⟨rfl, HU5.out.keep ?_, (((HS5.out.setNew ge (by omega) _ _).setNew ge (by omega) _ _).setNew ge (by omega) _ _).setNew ge (by omega) _ _⟩
      rw [Below.heap_setCell _ _ _ _ (by show gr ≠ ge; omega), Below.heap_setCell _ _ _ _ (by show gr ≠ ge; omega), Below.heap_setCell _ _ _ _ (by show gr ≠ ge; omega), Below.heap_setCell _ _ _ _ (by show gr ≠ ge; omega)])
    clear HGa HGb HGc HG5 HU5 HS5 HEM
    go_wp2_with fail
    (try simp only [Exit.inBlock, Exit.then])
    refine bodyPost_ret (results_single rfl (.cell ge 82 _ (0, 0) _ rfl HGd.out Tryz.underlying82 rfl (by kernel_rfl) .nil)) rfl ?_
    exact HF.out _ _ rfl rfl)
end Go.Proofs.YtdijnmcfpbceaaaGreatDoor.X

namespace Go.Proofs.YtdijnmcfpbceaaaGreatDoor.X
open Go.RowKit Go.Proofs.YtdijnmcfpbceaaaGreatDoorW.PrintWords Go.Proofs.YtdijnmcfpbceaaaGreatDoorW.PrintLast Go.Proofs.YtdijnmcfpbceaaaGreatDoorW.PrintMore Go.Proofs.YtdijnmcfpbceaaaGreatDoor.P
set_option linter.unusedVariables false
set_option linter.unusedSimpArgs false
structure ErrV (w : World) : Prop where
  synt : ∃ ev, w.cell? ⟨6, 0, none⟩ = some ev ∧ (ev = .nilIface ∨ ∃ te pe, ev = .iface te pe)
  rng : ∃ ev, w.cell? ⟨7, 0, none⟩ = some ev ∧ (ev = .nilIface ∨ ∃ te pe, ev = .iface te pe)
theorem ErrV.below {w w1 : World} (h : ErrV w) (hb : Below w.heap.size w w1) : ErrV w1 :=
  ⟨let ⟨ev, a, b⟩ := h.synt; ⟨ev, pw_cell_below hb a, b⟩, let ⟨ev, a, b⟩ := h.rng; ⟨ev, pw_cell_below hb a, b⟩⟩
theorem extract_list (s : ByteArray) (a b : Nat) : (s.extract a b).data.toList = (s.data.toList.take b).drop a := by
  rw [ByteArray.data_extract, Array.toList_extract, List.drop_take]
set_option maxHeartbeats 4000000 in
set_option maxRecDepth 100000 in
theorem urecord_calls (s : ByteArray) (w : World) (hT : Aside0 (Tabs w)) (hE : Aside0 (ErrV w)) (hs : s.size ≤ 1000000) :
    Calls Tryz.prog 75 #[.string s] w fun e w' => e = .returned (.tuple #[.string (recordM s).1, .string (recordM s).2.1, .string (recordM s).2.2.1, .bool (recordM s).2.2.2]) ∧ Below w.heap.size w w' := by
  obtain ⟨R, hR⟩ : ∃ R, recordM s = R := ⟨_, rfl⟩
  rw [hR]
  have HR := Aside0.mk hR
  clear hR
  go_enter Tryz.func75, Tryz.ntmps75
  go_wp2_with fail
  obtain ⟨⟨d, d2, dk⟩, hcut⟩ : ∃ r, Lib.cut s.data.toList [32] = r := ⟨_, rfl⟩
  have hdl : d.length ≤ s.size := by
    have : d = (Lib.cut s.data.toList [32]).1 := by rw [hcut]
    rw [this]
    unfold Lib.cut
    split
    · rw [List.length_take, data_length]
      omega
    · rw [data_length]
      exact Nat.le_refl _
  have hf1 : strings_Cut.f s ⟨#[32]⟩ = some (⟨d.toArray⟩, ⟨d2.toArray⟩, dk) := by
    unfold strings_Cut.f
    rw [if_pos (by omega), show (⟨#[32]⟩ : ByteArray).data.toList = [32] from rfl, hcut]
  have HCut := Aside0.mk hcut
  clear hcut
  refine (strings_Cut.calls s ⟨#[32]⟩ ⟨d.toArray⟩ ⟨d2.toArray⟩ dk w hT hf1).mono ?_
  rintro e w1 ⟨rfl, hd1⟩
  have HB1 := Aside0.mk hd1.below
  clear hd1 hf1
  have hds : (⟨d.toArray⟩ : ByteArray).size = d.length := size_mk d
  have hdt : (⟨d.toArray⟩ : ByteArray).data.toList = d := rfl
  generalize (⟨d.toArray⟩ : ByteArray) = db at *
  have HDt := Aside0.mk hdt
  clear hdt
  have hdb : db.size ≤ s.size := by omega
  have HDs := Aside0.mk hds
  clear hds
  rcases hat : Lib.atoiAll d with v | _ | _
  rotate_left
  ·
    have HF := Aside0.mk (show R = (⟨#[]⟩, ⟨#[]⟩, ⟨#[]⟩, false) from by
      rw [← HR.out]
      unfold recordM
      simp only [HCut.out, hat])
    obtain ⟨ev, hv, hev⟩ := (hE.out.below HB1.out).synt
    go_wp2_with fail
    refine (Tryz.strconv_Atoi_syntax db (by omega) (by rw [HDt.out]; exact hat) ev w1 hv hev).mono ?_
    rintro e w2 ⟨Nn, rfl, _, _, hb2⟩
    have HB2 := Aside0.mk (below_step HB1.out hb2)
    clear hv hev hb2 hat
    go_wp2_with fail
    (try simp only [Exit.inBlock, Exit.then])
    refine bodyPost_ret (results_list (rs := [.tmp 2, .tmp 3, .tmp 4, .tmp 5]) rfl (by simp) (.tmp (.tmp (.tmp (.tmp .nil))))) rfl ?_
    rw [HF.out]
    exact ⟨rfl, HB2.out⟩
  ·
    have HF := Aside0.mk (show R = (⟨#[]⟩, ⟨#[]⟩, ⟨#[]⟩, false) from by
      rw [← HR.out]
      unfold recordM
      simp only [HCut.out, hat])
    obtain ⟨ev, hv, hev⟩ := (hE.out.below HB1.out).rng
    go_wp2_with fail
    refine (Tryz.strconv_Atoi_range db (by omega) (by rw [HDt.out]; exact hat) ev w1 hv hev).mono ?_
    rintro e w2 ⟨Nn, rfl, _, _, hb2⟩
    have HB2 := Aside0.mk (below_step HB1.out hb2)
    clear hv hev hb2 hat
    generalize Lib.atoiSat db.data.toList = sat at *
    go_wp2_with fail
    (try simp only [Exit.inBlock, Exit.then])
    refine bodyPost_ret (results_list (rs := [.tmp 2, .tmp 3, .tmp 4, .tmp 5]) rfl (by simp) (.tmp (.tmp (.tmp (.tmp .nil))))) rfl ?_
    rw [HF.out]
    exact ⟨rfl, HB2.out⟩
  ·
    have hvb := Lib.atoiAll_bounds hat
    obtain ⟨b1, hb1⟩ : ∃ b, decide (v ≤ (db.size : Int)) = b := ⟨_, rfl⟩
    obtain ⟨b2, hb2⟩ : ∃ b, decide ((s.size : Int) < v) = b := ⟨_, rfl⟩
    go_wp2_with fail
    refine (Tryz.strconv_Atoi_ok db (by omega) v (by rw [HDt.out]; exact hat) w1).mono ?_
    rintro e w2 ⟨rfl, hw2⟩
    have HB2 := Aside0.mk (show Below w.heap.size w w2 from by
      rcases hw2 with rfl | ⟨t, rfl⟩
      · exact HB1.out
      · exact bytes_below HB1.out HB1.out.size _ _)
    clear hw2
    cases hbb : (b1 || b2) with
    | true =>
      have HF := Aside0.mk (show R = (⟨#[]⟩, ⟨#[]⟩, ⟨#[]⟩, false) from by
        rw [← HR.out]
        unfold recordM
        simp only [HCut.out, hat]
        rw [if_pos]
        rcases Bool.or_eq_true _ _ ▸ hbb with h | h
        · rw [h] at hb1
          have h1 := of_decide_eq_true hb1
          have h2 := HDs.out
          exact .inl (by omega)
        · rw [h] at hb2
          exact .inr (of_decide_eq_true hb2))
      cases b1 <;> cases b2 <;> first
      | (cases hbb; done)
      | (clear hbb
         go_wp2_with fail
         (try simp only [Exit.inBlock, Exit.then])
         refine bodyPost_ret (results_list (rs := [.tmp 2, .tmp 3, .tmp 4, .tmp 5]) rfl (by simp) (.tmp (.tmp (.tmp (.tmp .nil))))) rfl ?_
         rw [HF.out]
         exact ⟨rfl, HB2.out⟩)
    | false =>
      obtain rfl : b1 = false := by cases b1 <;> first | rfl | cases hbb
      obtain rfl : b2 = false := by cases b2 <;> first | rfl | cases hbb
      clear hbb
      obtain ⟨m, rfl⟩ := Int.eq_ofNat_of_zero_le (show 0 ≤ v by have := of_decide_eq_false hb1; omega)
      have hm1' : db.size + 1 ≤ m := by have := of_decide_eq_false hb1; omega
      have hb1n : decide (m ≤ db.size) = false := decide_eq_false (by omega)
      have hb2n : decide (s.size < m) = false := decide_eq_false (by have := of_decide_eq_false hb2; omega)
      have hm2 : m ≤ s.size := by have := of_decide_eq_false hb2; omega
      obtain ⟨⟨k, x, ok⟩, hc2⟩ : ∃ r, Lib.cut ((s.data.toList.take m).drop (d.length + 1)) [61] = r := ⟨_, rfl⟩
      have HF := Aside0.mk (show R = (⟨k.toArray⟩, trimM ⟨x.toArray⟩, ⟨(s.data.toList.drop m).toArray⟩, ok) from by
        rw [← HR.out]
        unfold recordM
        simp only [HCut.out, hat, Int.toNat_natCast, hc2]
        rw [if_neg (by have := HDs.out; omega)])
      have hf2 : strings_Cut.f (s.extract (db.size + 1) m) ⟨#[61]⟩ = some (⟨k.toArray⟩, ⟨x.toArray⟩, ok) := by
        unfold strings_Cut.f
        have hsz : (s.extract (db.size + 1) m).size ≤ s.size := by
          rw [← data_length, extract_list, List.length_drop, List.length_take, data_length]
          omega
        rw [if_pos (by omega), show (⟨#[61]⟩ : ByteArray).data.toList = [61] from rfl, extract_list, HDs.out, hc2]
      have HRest := Aside0.mk (show s.extract m s.size = ⟨(s.data.toList.drop m).toArray⟩ from by
        apply toList_extA
        rw [Lib.extract_to_end])
      have hxl : x.length ≤ s.size := by
        have e : x = (Lib.cut ((s.data.toList.take m).drop (d.length + 1)) [61]).2.1 := by rw [hc2]
        rw [e]
        unfold Lib.cut
        split
        · rw [List.length_drop, List.length_drop, List.length_take, data_length]
          omega
        · simp
      clear hc2 hat
      go_wp2_with fail
      refine (strings_Cut.calls (s.extract (db.size + 1) m) ⟨#[61]⟩ ⟨k.toArray⟩ ⟨x.toArray⟩ ok w2 ⟨Tabs.below hT.out HB2.out⟩ hf2).mono ?_
      rintro e w3 ⟨rfl, hd3⟩
      have HB3 := Aside0.mk (below_step HB2.out hd3.below)
      clear hd3 hf2
      obtain ⟨tx, htx⟩ : ∃ t, trimM ⟨x.toArray⟩ = t := ⟨_, rfl⟩
      have HTx := Aside0.mk htx
      clear htx
      have HTS := Aside0.mk (show ∀ w' : World, Calls Tryz.prog 96 #[.string ⟨x.toArray⟩, .string ⟨#[10]⟩] w' fun e w'' => e = .returned (.string tx) ∧ Below w'.heap.size w' w'' from fun w' => (Tryz.strings_TrimSuffix ⟨x.toArray⟩ ⟨#[10]⟩ w' (by rw [size_mk]; omega)).mono fun e w'' ⟨h1, h2⟩ => ⟨by rw [h1, ← HTx.out]; rfl, by rw [h2]; exact Below.refl _ _⟩)
      have hmi : (m : Int) ≤ (s.size : Int) := by omega
      have hm0i : 0 ≤ (m : Int) := by omega
      have hxs : (⟨x.toArray⟩ : ByteArray).size ≤ 9223372036854775807 := by rw [size_mk]; omega
      go_wp2_with fail
      refine start_ (n := 11) (S := fun w' => Below w3.heap.size w3 w') (ds := []) (bmG 11 0) (by kernel_rfl) rfl (by kernel_rfl) (below_drew1 (Below.refl w3.heap.size w3)) (fun hS => ?_)
      generalize w3.drew = wd at hS ⊢
      refine pure_ (i := 0) (N := some 50) (v := ?_) (a' := ?_) (bmG 11 1) rfl rfl (by kernel_rfl) (fun _ _ _ h => h) (Or.inl ⟨by rfl, ?_⟩) ?_ ?_
      rotate_left
      · intro w'
        go_simp
        with_reducible rfl
      rotate_left
      · simp only [Act.put, List.setIfInBounds_toArray, List.set_cons_zero, List.set_cons_succ, i64_w, i32_w]
        rfl
      refine pure_ (i := 1) (N := some 51) (v := ?_) (a' := ?_) (bmG 11 3) rfl rfl (by kernel_rfl) (fun _ _ _ h => h) (Or.inl ⟨by rfl, ?_⟩) ?_ ?_
      rotate_left
      · intro w'
        go_simp
        with_reducible rfl
      rotate_left
      · simp only [Act.put, List.setIfInBounds_toArray, List.set_cons_zero, List.set_cons_succ, i64_w, i32_w]
        rfl
      refine pure_ (i := 3) (N := some 53) (v := ?_) (a' := ?_) (bmG 11 11) rfl rfl (by kernel_rfl) (fun _ _ _ h => h) (Or.inl ⟨by rfl, ?_⟩) ?_ ?_
      rotate_left
      · intro w'
        go_simp
        with_reducible rfl
      rotate_left
      · simp only [Act.put, List.setIfInBounds_toArray, List.set_cons_zero, List.set_cons_succ, i64_w, i32_w]
        rfl
      refine pure_ (i := 4) (N := some 54) (v := ?_) (a' := ?_) (bmG 11 27) rfl rfl (by kernel_rfl) (fun _ _ _ h => h) (Or.inl ⟨by rfl, ?_⟩) ?_ ?_
      rotate_left
      · intro w'
        go_simp
        with_reducible rfl
      rotate_left
      · simp only [Act.put, List.setIfInBounds_toArray, List.set_cons_zero, List.set_cons_succ, i64_w, i32_w]
        rfl
      refine pure_ (i := 5) (N := some 55) (v := ?_) (a' := ?_) (bmG 11 59) rfl rfl (by kernel_rfl) (fun _ _ _ h => h) (Or.inl ⟨by rfl, ?_⟩) ?_ ?_
      rotate_left
      · intro w'
        go_simp
        with_reducible rfl
      rotate_left
      · simp only [Act.put, List.setIfInBounds_toArray, List.set_cons_zero, List.set_cons_succ, i64_w, i32_w]
        rfl
      refine pure_ (i := 6) (N := some 56) (v := ?_) (a' := ?_) (bmG 11 123) rfl rfl (by kernel_rfl) (fun _ _ _ h => h) (Or.inl ⟨by rfl, ?_⟩) ?_ ?_
      rotate_left
      · intro w'
        go_simp
        with_reducible rfl
      rotate_left
      · simp only [Act.put, List.setIfInBounds_toArray, List.set_cons_zero, List.set_cons_succ, i64_w, i32_w]
        rfl
      refine one_ (i := 2) (N := some 52) (bmG 11 127) rfl rfl (by kernel_rfl) (by decide) (fun Kz hKz => ?_)
      refine goes_ Tryz.func96 (by kernel_rfl) rfl #[.string ⟨x.toArray⟩, .string ⟨#[10]⟩] (by rfl) rfl rfl (by (try simp only [List.map_toArray, List.map_cons, List.map_nil]); first | done | rfl) ?_
      refine (HTS.out _).mono ?_
      rintro e wc ⟨rfl, hb⟩
      refine ⟨_, rfl, ?_⟩
      refine hKz.out _ _ (below_step hS hb) (fun hS => ?_)
      clear hKz Kz
      refine norm_ (a' := ?_) ?_ ?_
      rotate_left
      · show Act.put _ (some 52) _ = _
        simp only [Act.put, List.setIfInBounds_toArray, List.set_cons_zero, List.set_cons_succ, i64_w, i32_w]
        rfl
      refine pure_ (i := 7) (N := some 2) (v := ?_) (a' := ?_) (bmG 11 255) rfl rfl (by kernel_rfl) (fun _ _ _ h => h) (Or.inl ⟨by rfl, ?_⟩) ?_ ?_
      rotate_left
      · intro w'
        go_simp
        with_reducible rfl
      rotate_left
      · simp only [Act.put, List.setIfInBounds_toArray, List.set_cons_zero, List.set_cons_succ, i64_w, i32_w]
        rfl
      refine pure_ (i := 8) (N := some 3) (v := ?_) (a' := ?_) (bmG 11 511) rfl rfl (by kernel_rfl) (fun _ _ _ h => h) (Or.inl ⟨by rfl, ?_⟩) ?_ ?_
      rotate_left
      · intro w'
        go_simp
        with_reducible rfl
      rotate_left
      · simp only [Act.put, List.setIfInBounds_toArray, List.set_cons_zero, List.set_cons_succ, i64_w, i32_w]
        rfl
      refine pure_ (i := 9) (N := some 4) (v := ?_) (a' := ?_) (bmG 11 1023) rfl rfl (by kernel_rfl) (fun _ _ _ h => h) (Or.inl ⟨by rfl, ?_⟩) ?_ ?_
      rotate_left
      · intro w'
        go_simp
        with_reducible rfl
      rotate_left
      · simp only [Act.put, List.setIfInBounds_toArray, List.set_cons_zero, List.set_cons_succ, i64_w, i32_w]
        rfl
      refine pure_ (i := 10) (N := some 5) (v := ?_) (a' := ?_) (bmG 11 2047) rfl rfl (by kernel_rfl) (fun _ _ _ h => h) (Or.inl ⟨by rfl, ?_⟩) ?_ ?_
      rotate_left
      · intro w'
        go_simp
        with_reducible rfl
      rotate_left
      · simp only [Act.put, List.setIfInBounds_toArray, List.set_cons_zero, List.set_cons_succ, i64_w, i32_w]
        rfl
      refine done_ (by kernel_rfl) ?_
      go_wp2_with fail
      (try simp only [Exit.inBlock, Exit.then])
      refine bodyPost_ret (results_list (rs := [.tmp 2, .tmp 3, .tmp 4, .tmp 5]) rfl (by simp) (.tmp (.tmp (.tmp (.tmp .nil))))) rfl ?_
      rw [HF.out, ← HRest.out, HTx.out]
      exact ⟨rfl, below_step HB3.out hS⟩
end Go.Proofs.YtdijnmcfpbceaaaGreatDoor.X

namespace Go.Proofs.YtdijnmcfpbceaaaGreatDoor.X
open Go.RowKit Go.Proofs.YtdijnmcfpbceaaaGreatDoorW.PrintWords
set_option linter.unusedVariables false
theorem err_of_head {P : Program} {W : World} {name nm : String} {d : DataW Unit} {rest : List (String × DataW Unit)} {g : Nat} {t : TypeId} {ms : Array (String × TypeId)}
    (hg : P.globalNamed name = some g) (hty : (P.globals[g]?).map (·.type) = some t) (ht : P.underlying t = some (.interface ms))
    (h : laidMet P ((name, .iface nm d) :: rest) W) : ∃ ev, W.cell? ⟨g, 0, none⟩ = some ev ∧ (ev = .nilIface ∨ ∃ te pe, ev = .iface te pe) := by
  obtain ⟨ps, ⟨g', t', cs, fuel, p, q, hg', ht', hvar, hd, _, _⟩, _⟩ := h
  obtain rfl := Option.some.inj (hg.symm.trans hg')
  obtain rfl := Option.some.inj (hty.symm.trans ht')
  obtain ⟨f1, u, v, hcs, _, _⟩ := iface_of_trod ht hd
  have hc := World.var?_cell hg hvar 0
  refine ⟨.iface u v, ?_, .inr ⟨u, v, rfl⟩⟩
  rw [hc, ← Array.getElem?_toList, hcs]
  rfl
theorem errV_of {W : World} {a b c d : String × DataW Unit} {rest : List (String × DataW Unit)} (h : laidMet Tryz.prog (a :: b :: c :: d :: ("strconv.ErrRange", Rows.laid_strconv_ErrRange) :: ("strconv.ErrSyntax", Rows.laid_strconv_ErrSyntax) :: rest) W) : ErrV W := by
  have h1 := laid_tail (laid_tail (laid_tail (laid_tail h)))
  have h2 := laid_tail h1
  exact ⟨err_of_head (g := 6) (t := 123) (by kernel_rfl) (by kernel_rfl) Tryz.underlying123 h2, err_of_head (g := 7) (t := 123) (by kernel_rfl) (by kernel_rfl) Tryz.underlying123 h1⟩
end Go.Proofs.YtdijnmcfpbceaaaGreatDoor.X

namespace Go.Proofs.YtdijnmcfpbceaaaGreatDoor.X
open Go.RowKit Go.Proofs.YtdijnmcfpbceaaaGreatDoorW.PrintWords Go.Proofs.YtdijnmcfpbceaaaGreatDoorW.PrintLast Go.Proofs.YtdijnmcfpbceaaaGreatDoorW.PrintMore Go.Proofs.YtdijnmcfpbceaaaGreatDoor.P
set_option linter.unusedVariables false
set_option linter.unusedSimpArgs false
theorem path_no61 : (61 : UInt8) ∉ pathS.data.toList := by decide
theorem link_no61 : (61 : UInt8) ∉ linkS.data.toList := by decide
theorem link_ne : linkS ≠ pathS := fun h => by
  have := congrArg ByteArray.size h
  exact absurd this (by decide)
theorem toldM_nil (f : Nat) (x : EntT) (e : ByteArray) (h : e.size = 0) : toldM (f + 1) x e = (x, false) := by
  unfold toldM
  rw [if_pos h]
theorem toldM_rec (f : Nat) (x : EntT) (key value : ByteArray) (r : List UInt8) (hk : (61 : UInt8) ∉ key.data.toList) (hs : key.size + value.size ≤ 800000) :
    toldM (f + 1) x ⟨((recT key value).data.toList ++ r).toArray⟩ = toldM f (putM x key value) ⟨r.toArray⟩ := by
  have hsz := recT_size key value hs
  conv => lhs; unfold toldM
  rw [recordM_ok key value r hk hs, if_neg (by rw [size_mk, List.length_append, data_length]; omega)]
  simp
theorem nil_size : (⟨([] : List UInt8).toArray⟩ : ByteArray).size = 0 := rfl
theorem putM_path (x : EntT) (v : ByteArray) : putM x pathS v = { x with name := v } := by unfold putM; rw [if_pos rfl]
theorem putM_link (x : EntT) (v : ByteArray) : putM x linkS v = { x with link := v } := by unfold putM; rw [if_neg link_ne]
theorem extra_list (n : S47) : extraN n = ⟨((if 100 < (nameN n).size then (recT pathS (nameN n)).data.toList else []) ++ (if n.f1 = 4 ∧ 100 < n.f2.size then (recT linkS n.f2).data.toList else [])).toArray⟩ := by
  apply toList_extA
  unfold extraN
  rw [ByteArray.toList_data_append]
  show _ ++ _ = _ ++ _
  congr 1
  · split <;> rfl
  · split <;> rfl
theorem cutS_short (s : ByteArray) (h : s.size ≤ 100) : cutS s = s := by
  apply toList_extA
  rw [cutS_list, Nat.min_eq_left h, List.take_of_length_le (by rw [data_length]; omega)]
theorem told_node {n : S47} (h : goodN n = true) (f : Nat) : toldM (f + 3) (ownE n) (extraN n) = ({ ownE n with name := nameN n, link := if n.f1 = 4 then n.f2 else ⟨#[]⟩ }, false) := by
  obtain ⟨h1, h2, h3⟩ := good_kinds h
  obtain ⟨g1, g2, g3, g4, g5⟩ := nameN_spec h
  have e4 : pathS.size = 4 := rfl
  have e8 : linkS.size = 8 := rfl
  have hn : (ownE n).name = cutS (nameN n) := by unfold ownE; split <;> rfl
  have hlk : (ownE n).link = if n.f1 = 4 then cutS n.f2 else ⟨#[]⟩ := by unfold ownE; split <;> rfl
  rw [extra_list]
  generalize ownE n = x at *
  obtain ⟨nm, kd, lk, dt⟩ := x
  dsimp only at hn hlk
  subst hn hlk
  by_cases p : 100 < (nameN n).size
  · rw [if_pos p]
    by_cases q : n.f1 = 4 ∧ 100 < n.f2.size
    · rw [if_pos q, toldM_rec _ _ _ _ _ path_no61 (by omega), putM_path, show (recT linkS n.f2).data.toList = (recT linkS n.f2).data.toList ++ [] from (List.append_nil _).symm, toldM_rec _ _ _ _ _ link_no61 (by omega), putM_link, toldM_nil _ _ _ nil_size]
      simp only [if_pos q.1]
    · rw [if_neg q, toldM_rec _ _ _ _ _ path_no61 (by omega), putM_path, toldM_nil _ _ _ nil_size]
      by_cases k : n.f1 = 4
      · have hs2 : n.f2.size ≤ 100 := by
          rcases Nat.lt_or_ge 100 n.f2.size with h9 | h9
          · exact absurd ⟨k, h9⟩ q
          · exact h9
        simp only [if_pos k, cutS_short n.f2 hs2]
      · simp only [if_neg k]
  · rw [if_neg p, List.nil_append]
    have hc := cutS_short (nameN n) (by omega)
    by_cases q : n.f1 = 4 ∧ 100 < n.f2.size
    · rw [if_pos q, show (recT linkS n.f2).data.toList = (recT linkS n.f2).data.toList ++ [] from (List.append_nil _).symm, toldM_rec _ _ _ _ _ link_no61 (by omega), putM_link, toldM_nil _ _ _ nil_size, hc]
      simp only [if_pos q.1]
    · rw [if_neg q, toldM_nil _ _ _ nil_size, hc]
      by_cases k : n.f1 = 4
      · have hs2 : n.f2.size ≤ 100 := by
          rcases Nat.lt_or_ge 100 n.f2.size with h9 | h9
          · exact absurd ⟨k, h9⟩ q
          · exact h9
        simp only [if_pos k, cutS_short n.f2 hs2]
      · simp only [if_neg k]
theorem name_back {n : S47} (h : goodN n = true) : (if nameN n = dotS then (⟨#[]⟩ : ByteArray) else nameN n) = n.f0 := by
  unfold nameN
  split
  · rename_i e
    rw [if_pos (show (⟨#[46]⟩ : ByteArray) = dotS from rfl)]
    exact toList_extA (List.eq_nil_of_length_eq_zero (by rw [data_length]; exact e)).symm
  · rename_i e
    rw [if_neg]
    intro ed
    have hp := (good_kinds h).1
    rw [ed] at hp
    exact absurd hp (by decide)
theorem nodeM_ok {n : S47} (h : goodN n = true) (r : List Int) : nodeM ((entsN n).flatMap entryB ++ r, false) = (n, (r, false)) := by
  obtain ⟨h1, h2, h3⟩ := good_kinds h
  have ho := ents_ok1 h
  have hk : (ownE n).kind = n.f1 := by unfold ownE; split <;> rfl
  have hx := told_node h
  have hnode : nodeX { ownE n with name := nameN n, link := if n.f1 = 4 then n.f2 else ⟨#[]⟩ } = n := by
    unfold nodeX
    dsimp only
    rw [name_back h, hk]
    have hd : (ownE n).data = if n.f1 = 4 then ⟨#[]⟩ else n.f2 := by unfold ownE; split <;> rfl
    rw [hd]
    by_cases k : n.f1 = 4
    · rw [if_pos k, if_pos k, empty_append]
    · rw [if_neg k, if_neg k, append_empty]
  unfold entsN at ho ⊢
  by_cases hz : (extraN n).size = 0
  · rw [if_pos hz] at ho ⊢
    have hO := ho (ownE n) (by simp)
    have e1 := entryM_ok hO r
    have e0 := toldM_nil 2 (ownE n) (extraN n) hz
    have e2 := hx 0
    rw [e0] at e2
    have e3 := (Prod.mk.inj e2).1
    simp only [List.nil_append, List.flatMap_cons, List.flatMap_nil, List.append_nil]
    unfold nodeM
    simp only [e1]
    rw [if_neg (by rw [hk]; omega)]
    rw [e3, hnode]
  · rw [if_neg hz] at ho ⊢
    have hO := ho (ownE n) (by simp)
    have hX := ho ⟨⟨#[112, 97, 120]⟩, 5, ⟨#[]⟩, extraN n⟩ (by simp)
    simp only [List.cons_append, List.nil_append, List.flatMap_cons, List.flatMap_nil, List.append_nil]
    rw [List.append_assoc]
    have e1 := entryM_ok hX (entryB (ownE n) ++ r)
    have e2 := entryM_ok hO r
    have e3 := hx ((extraN n).size - 1)
    have e4 : toldM ((extraN n).size + 1) (ownE n) (extraN n) = ({ ownE n with name := nameN n, link := if n.f1 = 4 then n.f2 else ⟨#[]⟩ }, false) := by
      have hbig : 3 ≤ (extraN n).size + 1 := by
        have := extra_size h
        have e4 : pathS.size = 4 := rfl
        have e8 : linkS.size = 8 := rfl
        rw [extra_list] at hz ⊢
        rw [size_mk] at hz ⊢
        rw [List.length_append] at hz ⊢
        have hs := (nameN_spec h).2.2.1
        have r1 := recT_size pathS (nameN n) (by omega)
        have r2 := recT_size linkS n.f2 (by omega)
        by_cases p : 100 < (nameN n).size
        · rw [if_pos p, data_length] at hz ⊢
          omega
        · rw [if_neg p] at hz ⊢
          by_cases q : n.f1 = 4 ∧ 100 < n.f2.size
          · rw [if_pos q, data_length] at hz ⊢
            omega
          · rw [if_neg q] at hz
            simp at hz
      have e5 := hx ((extraN n).size + 1 - 3)
      rw [show (extraN n).size + 1 - 3 + 3 = (extraN n).size + 1 from by omega] at e5
      exact e5
    unfold nodeM
    simp only [e1, e2, e4]
    rw [if_pos trivial, hnode]
    rfl
theorem endedM_end : endedM (List.replicate 1024 0) = true := by
  unfold endedM
  rw [List.length_replicate, decide_eq_true (rfl : 1024 = 1024), Bool.true_and, List.all_eq_true]
  intro x hx
  rw [(List.mem_replicate.1 hx).2]
  rfl
theorem readM_ok : ∀ (u : List S47) (f : Nat) (t : List S47), (∀ n ∈ u, goodN n = true) → t.length + u.length ≤ 400 → u.length < f → readM f ((entsT u).flatMap entryB ++ List.replicate 1024 0, false) t = (t ++ u, false)
  | [], f, t, _, _, hf => by
    obtain ⟨f, rfl⟩ : ∃ k, f = k + 1 := ⟨f - 1, by simp at hf; omega⟩
    unfold readM
    simp only [entsT, List.flatMap_nil, List.nil_append, List.append_nil]
    rw [if_pos (.inr (.inl endedM_end))]
  | n :: u, f, t, hg, hl, hf => by
    obtain ⟨f, rfl⟩ : ∃ k, f = k + 1 := ⟨f - 1, by simp at hf; omega⟩
    rw [List.length_cons] at hl hf
    have gn := hg n List.mem_cons_self
    have e1 : (entsT (n :: u)).flatMap entryB ++ List.replicate 1024 0 = (entsN n).flatMap entryB ++ ((entsT u).flatMap entryB ++ List.replicate 1024 0) := by
      unfold entsT
      rw [List.flatMap_cons, List.flatMap_append]
      simp only [List.append_assoc]
    have hne : endedM ((entsT (n :: u)).flatMap entryB ++ List.replicate 1024 0) = false := by
      unfold endedM
      rw [Bool.and_eq_false_iff]
      left
      rw [decide_eq_false_iff_not, e1]
      have h1 := ents_len1 gn
      have h2 : 1 ≤ headN n := by unfold headN; omega
      rw [List.length_append, List.length_append, List.length_replicate, h1.2]
      omega
    unfold readM
    rw [if_neg (by
      rw [hne]
      simp only [Bool.false_eq_true, false_or]
      omega)]
    rw [e1, nodeM_ok gn]
    simp only
    rw [readM_ok u f (t ++ [n]) (fun x hx => hg x (List.mem_cons_of_mem _ hx)) (by rw [List.length_append, List.length_singleton]; omega) (by omega)]
    simp
theorem unt_back {t : List S47} (h : treeB t = true) : untR (tarB t) = (t, 0) := by
  have hl := (treeB_good h).2
  have hr := readM_ok t 402 [] (treeB_nodes h) (by simpa using hl) (by omega)
  unfold untR
  rw [tarB_at, hr]
  simp only [List.nil_append]
  rw [if_pos ⟨by trivial, h, tarB_at⟩]
theorem unt_cases (b : List Int) : untR b = ([], 5) ∨ ∃ t, untR b = (t, 0) ∧ treeB t = true ∧ tarB t = b := by
  unfold untR
  dsimp only
  split
  · rename_i h
    exact .inr ⟨_, rfl, h.2.1, h.2.2⟩
  · exact .inl rfl
end Go.Proofs.YtdijnmcfpbceaaaGreatDoor.X

namespace Go.Proofs.YtdijnmcfpbceaaaGreatDoor.X
open Go.RowKit Go.Proofs.YtdijnmcfpbceaaaGreatDoorW.PrintWords Go.Proofs.YtdijnmcfpbceaaaGreatDoorW.PrintLast Go.Proofs.YtdijnmcfpbceaaaGreatDoorW.PrintMore Go.Proofs.YtdijnmcfpbceaaaGreatDoor.P
set_option linter.unusedVariables false
set_option linter.unusedSimpArgs false
def digL : Nat → Nat → Nat → List UInt8 → Nat × Nat
  | f + 1, n, i, c :: l => if 48 ≤ c.toNat ∧ c.toNat ≤ 57 then digL f (n * 10 + (c.toNat - 48)) (i + 1) l else (n, i)
  | _, n, i, _ => (n, i)
theorem digL_app (r : List UInt8) : ∀ (D : List UInt8) (f n i : Nat), (∀ c ∈ D, 48 ≤ c.toNat ∧ c.toNat ≤ 57) → D.length ≤ f → digL f n i (D ++ 32 :: r) = (numL D n, i + D.length)
  | [], f, n, i, _, _ => by
    cases f with
    | zero => rfl
    | succ f =>
      show digL (f + 1) n i (32 :: r) = _
      unfold digL
      rw [if_neg (by decide)]
      rfl
  | c :: D, f, n, i, h, hf => by
    obtain ⟨f, rfl⟩ : ∃ k, f = k + 1 := ⟨f - 1, by rw [List.length_cons] at hf; omega⟩
    show digL (f + 1) n i (c :: (D ++ 32 :: r)) = _
    unfold digL
    rw [if_pos (h c List.mem_cons_self), digL_app r D f _ _ (fun x hx => h x (List.mem_cons_of_mem _ hx)) (by rw [List.length_cons] at hf; omega)]
    rw [List.length_cons]
    refine Prod.ext rfl ?_
    show i + 1 + D.length = i + (D.length + 1)
    omega
theorem digL_le : ∀ (f n i : Nat) (l : List UInt8), i ≤ (digL f n i l).2 ∧ (digL f n i l).2 ≤ i + l.length
  | 0, n, i, l => by unfold digL; exact ⟨Nat.le_refl _, by show i ≤ _; omega⟩
  | f + 1, n, i, [] => by unfold digL; exact ⟨Nat.le_refl _, by show i ≤ _; omega⟩
  | f + 1, n, i, c :: l => by
    unfold digL
    split
    · have := digL_le f (n * 10 + (c.toNat - 48)) (i + 1) l
      rw [List.length_cons]
      omega
    · exact ⟨Nat.le_refl _, by show i ≤ _; omega⟩
theorem ext_list (s : ByteArray) (a b : Nat) : (s.extract a b).data.toList = (s.data.toList.take b).drop a := by
  rw [ByteArray.data_extract, Array.toList_extract, List.drop_take]
def pathE : ByteArray := ⟨#[112, 97, 116, 104, 61]⟩
def linkE : ByteArray := ⟨#[108, 105, 110, 107, 112, 97, 116, 104, 61]⟩
def recsA : Nat → ByteArray → ByteArray → ByteArray → ByteArray × ByteArray
  | 0, _, p, l => (p, l)
  | f + 1, s, p, l =>
    if s.size = 0 then (p, l) else
    if (digL 6 0 0 s.data.toList).1 ≤ (digL 6 0 0 s.data.toList).2 + 1 ∨ s.size < (digL 6 0 0 s.data.toList).1 then (p, l) else
    recsA f (s.extract (digL 6 0 0 s.data.toList).1 s.size)
      (if (s.extract ((digL 6 0 0 s.data.toList).2 + 1) ((digL 6 0 0 s.data.toList).1 - 1)).extract 0 5 = pathE then (s.extract ((digL 6 0 0 s.data.toList).2 + 1) ((digL 6 0 0 s.data.toList).1 - 1)).extract 5 (s.extract ((digL 6 0 0 s.data.toList).2 + 1) ((digL 6 0 0 s.data.toList).1 - 1)).size else p)
      (if (s.extract ((digL 6 0 0 s.data.toList).2 + 1) ((digL 6 0 0 s.data.toList).1 - 1)).extract 0 9 = linkE then (s.extract ((digL 6 0 0 s.data.toList).2 + 1) ((digL 6 0 0 s.data.toList).1 - 1)).extract 9 (s.extract ((digL 6 0 0 s.data.toList).2 + 1) ((digL 6 0 0 s.data.toList).1 - 1)).size else l)
theorem recsA_nil (f : Nat) (s p l : ByteArray) (h : s.size = 0) : recsA f s p l = (p, l) := by
  cases f with
  | zero => rfl
  | succ f => unfold recsA; rw [if_pos h]
theorem recsA_size : ∀ (f : Nat) (s p l : ByteArray) (m : Nat), s.size ≤ m → p.size ≤ m → l.size ≤ m → (recsA f s p l).1.size ≤ m ∧ (recsA f s p l).2.size ≤ m
  | 0, s, p, l, m, _, hp, hl => ⟨hp, hl⟩
  | f + 1, s, p, l, m, hs, hp, hl => by
    unfold recsA
    split
    · exact ⟨hp, hl⟩
    · split
      · exact ⟨hp, hl⟩
      · refine recsA_size f _ _ _ m (by rw [ByteArray.size_extract]; omega) ?_ ?_
        · split
          · rw [ByteArray.size_extract, ByteArray.size_extract]; omega
          · exact hp
        · split
          · rw [ByteArray.size_extract, ByteArray.size_extract]; omega
          · exact hl
theorem recsA_rec (f : Nat) (key value : ByteArray) (r : List UInt8) (p l : ByteArray) (hs : key.size + value.size ≤ 90000) :
    recsA (f + 1) ⟨((recT key value).data.toList ++ r).toArray⟩ p l = recsA f ⟨r.toArray⟩
      (if (⟨(key.data.toList ++ 61 :: value.data.toList).toArray⟩ : ByteArray).extract 0 5 = pathE then (⟨(key.data.toList ++ 61 :: value.data.toList).toArray⟩ : ByteArray).extract 5 (key.size + 1 + value.size) else p)
      (if (⟨(key.data.toList ++ 61 :: value.data.toList).toArray⟩ : ByteArray).extract 0 9 = linkE then (⟨(key.data.toList ++ 61 :: value.data.toList).toArray⟩ : ByteArray).extract 9 (key.size + 1 + value.size) else l) := by
  have hsz := recT_size key value (by omega)
  have hm := recB_length key.data.toList value.data.toList (by rw [data_length, data_length]; omega)
  have hM := recM_gt (key.size + value.size + 3) (by omega)
  have hS := (recM_spec (key.size + value.size + 3) (by omega)).1
  rw [data_length, data_length] at hm
  have hl : (recT key value).data.toList = Lib.decDigits (recM (key.size + value.size + 3)) ++ 32 :: (key.data.toList ++ 61 :: (value.data.toList ++ [10])) := by
    show recB _ _ = _
    unfold recB
    rw [data_length, data_length]
    simp
  have hl2 : (recT key value).data.toList.length = recM (key.size + value.size + 3) := hm
  have h6 : lenD (recM (key.size + value.size + 3)) ≤ 6 := lenD_le 5 _ (by
    have : (10 : Nat) ^ (5 + 1) = 1000000 := by decide
    omega)
  have h1 := lenD_pos (recM (key.size + value.size + 3))
  have hN := numL_dec (recM (key.size + value.size + 3))
  have hdd := dec_digit (recM (key.size + value.size + 3))
  generalize recM (key.size + value.size + 3) = M at *
  have hdl : lenD M = (Lib.decDigits M).length := rfl
  generalize Lib.decDigits M = D at *
  generalize hT : (recT key value).data.toList = T at *
  have e1 : digL 6 0 0 (T ++ r) = (M, D.length) := by
    rw [hl, show D ++ 32 :: (key.data.toList ++ 61 :: (value.data.toList ++ [10])) ++ r = D ++ 32 :: (key.data.toList ++ 61 :: (value.data.toList ++ [10]) ++ r) from by simp, digL_app _ D 6 0 0 hdd (by omega), hN, Nat.zero_add]
  have hz : (⟨(T ++ r).toArray⟩ : ByteArray).size = (T ++ r).length := size_mk _
  have hlen : (T ++ r).length = M + r.length := by rw [List.length_append, hl2]
  have e2 : (⟨(T ++ r).toArray⟩ : ByteArray).extract (D.length + 1) (M - 1) = ⟨(key.data.toList ++ 61 :: value.data.toList).toArray⟩ := by
    apply toList_extA
    rw [ext_list]
    show ((T ++ r).take (M - 1)).drop (D.length + 1) = key.data.toList ++ 61 :: value.data.toList
    have e3 : T = D ++ [32] ++ (key.data.toList ++ 61 :: value.data.toList) ++ [10] := by rw [hl]; simp
    have e4 : M - 1 = (D ++ [32] ++ (key.data.toList ++ 61 :: value.data.toList)).length := by
      rw [← hl2, e3, List.length_append]
      simp
    rw [e4, e3, List.append_assoc _ [10] r, List.take_left, show D.length + 1 = (D ++ [32]).length from by simp, List.drop_left]
  have e5 : (⟨(T ++ r).toArray⟩ : ByteArray).extract M (⟨(T ++ r).toArray⟩ : ByteArray).size = ⟨r.toArray⟩ := by
    apply toList_extA
    rw [Lib.extract_to_end]
    show (T ++ r).drop M = r
    rw [← hl2, List.drop_left]
  have e6 : (⟨(key.data.toList ++ 61 :: value.data.toList).toArray⟩ : ByteArray).size = key.size + 1 + value.size := by
    rw [size_mk, List.length_append, List.length_cons, data_length, data_length]
    omega
  conv => lhs; unfold recsA
  rw [extract_toList, e1]
  dsimp only
  rw [if_neg (by rw [hz, hlen]; omega), if_neg (by rw [hz, hlen]; omega), e2, e5, e6]
theorem recs_path (f : Nat) (v : ByteArray) (r : List UInt8) (p l : ByteArray) (hs : v.size ≤ 80000) : recsA (f + 1) ⟨((recT pathS v).data.toList ++ r).toArray⟩ p l = recsA f ⟨r.toArray⟩ v l := by
  have e4 : pathS.size = 4 := rfl
  rw [recsA_rec f pathS v r p l (by omega), if_pos, if_neg]
  · congr 1
    apply toList_extA
    rw [e4, ext_list]
    show (([112, 97, 116, 104] ++ 61 :: v.data.toList).take (4 + 1 + v.size)).drop 5 = v.data.toList
    rw [List.take_of_length_le (by simp [data_length]; omega)]
    rfl
  · intro h
    have h := congrArg (fun s : ByteArray => s.data.toList.head?) h
    rw [ext_list] at h
    exact absurd h (by show ¬ (some (112 : UInt8) = some 108); decide)
  · apply toList_extA
    rw [ext_list]
    rfl
theorem recs_link (f : Nat) (v : ByteArray) (r : List UInt8) (p l : ByteArray) (hs : v.size ≤ 80000) : recsA (f + 1) ⟨((recT linkS v).data.toList ++ r).toArray⟩ p l = recsA f ⟨r.toArray⟩ p v := by
  have e4 : linkS.size = 8 := rfl
  rw [recsA_rec f linkS v r p l (by omega), if_neg, if_pos]
  · congr 1
    apply toList_extA
    rw [e4, ext_list]
    show (([108, 105, 110, 107, 112, 97, 116, 104] ++ 61 :: v.data.toList).take (8 + 1 + v.size)).drop 9 = v.data.toList
    rw [List.take_of_length_le (by simp [data_length]; omega)]
    rfl
  · apply toList_extA
    rw [ext_list]
    rfl
  · intro h
    have h := congrArg (fun s : ByteArray => s.data.toList.head?) h
    rw [ext_list] at h
    exact absurd h (by show ¬ (some (108 : UInt8) = some 112); decide)
def aheadP (n : S47) : ByteArray := if 100 < (nameN n).size then nameN n else ⟨#[]⟩
def aheadL (n : S47) : ByteArray := if n.f1 = 4 ∧ 100 < n.f2.size then n.f2 else ⟨#[]⟩
theorem recs_node {n : S47} (h : goodN n = true) : recsA ((extraN n).size + 1) (extraN n) ⟨#[]⟩ ⟨#[]⟩ = (aheadP n, aheadL n) := by
  obtain ⟨g1, g2, g3, g4, g5⟩ := nameN_spec h
  obtain ⟨h1, h2, h3⟩ := good_kinds h
  by_cases hz : (extraN n).size = 0
  · rw [recsA_nil _ _ _ _ hz]
    unfold extraN at hz
    rw [ByteArray.size_append] at hz
    unfold aheadP aheadL
    have ne : ∀ a b : ByteArray, a.size + b.size ≤ 80000 → (recT a b).size ≠ 0 := fun a b hab => by have := recT_size a b (by omega); omega
    have e4 : pathS.size = 4 := rfl
    have e8 : linkS.size = 8 := rfl
    rw [if_neg, if_neg]
    · intro q
      rw [if_pos q] at hz
      exact ne linkS n.f2 (by omega) (by show (recT ⟨#[108, 105, 110, 107, 112, 97, 116, 104]⟩ n.f2).size = 0; omega)
    · intro q
      rw [if_pos q] at hz
      exact ne pathS (nameN n) (by omega) (by show (recT ⟨#[112, 97, 116, 104]⟩ (nameN n)).size = 0; omega)
  · obtain ⟨k, hk⟩ : ∃ k, (extraN n).size + 1 = k + 2 := ⟨(extraN n).size - 1, by omega⟩
    rw [hk]
    rw [extra_list]
    unfold aheadP aheadL
    by_cases p : 100 < (nameN n).size
    · rw [if_pos p, if_pos p, recs_path _ _ _ _ _ (by omega)]
      by_cases q : n.f1 = 4 ∧ 100 < n.f2.size
      · rw [if_pos q, if_pos q, show (recT linkS n.f2).data.toList = (recT linkS n.f2).data.toList ++ [] from (List.append_nil _).symm, recs_link _ _ _ _ _ (by omega), recsA_nil _ _ _ _ nil_size]
      · rw [if_neg q, if_neg q, recsA_nil _ _ _ _ nil_size]
    · rw [if_neg p, if_neg p, List.nil_append]
      by_cases q : n.f1 = 4 ∧ 100 < n.f2.size
      · rw [if_pos q, if_pos q, show (recT linkS n.f2).data.toList = (recT linkS n.f2).data.toList ++ [] from (List.append_nil _).symm, recs_link _ _ _ _ _ (by omega), recsA_nil _ _ _ _ nil_size]
      · rw [if_neg q, if_neg q, recsA_nil _ _ _ _ nil_size]
end Go.Proofs.YtdijnmcfpbceaaaGreatDoor.X

namespace Go.Proofs.YtdijnmcfpbceaaaGreatDoor.X
open Go.RowKit Go.Proofs.YtdijnmcfpbceaaaGreatDoorW.PrintWords Go.Proofs.YtdijnmcfpbceaaaGreatDoorW.PrintLast Go.Proofs.YtdijnmcfpbceaaaGreatDoorW.PrintMore Go.Proofs.YtdijnmcfpbceaaaGreatDoor.P
set_option linter.unusedVariables false
set_option linter.unusedSimpArgs false
def nameL (nm p : ByteArray) : ByteArray := if p.size = 0 then nm else p
def nodeL (nm : ByteArray) (k : Int) (lk d p l : ByteArray) : S47 :=
  ⟨if nameL nm p = dotS then ⟨#[]⟩ else nameL nm p, k, if k = 4 then nameL lk l else d⟩
def lenM (b : List Int) : Nat → Nat → ByteArray → ByteArray → List S47 → List S47
  | 0, _, _, _, t => t
  | f + 1, q, p, l, t =>
    if b.length < q + 512 ∨ 400 < t.length then t else
    if (readR ((b.take (q + 512)).drop q)).2.2.2.2 = false ∨ (b.length : Int) - q - 512 < (readR ((b.take (q + 512)).drop q)).2.2.1 then t else
    if (readR ((b.take (q + 512)).drop q)).2.1 = 5 then
      lenM b f (q + 512 + ((readR ((b.take (q + 512)).drop q)).2.2.1.toNat + 511) / 512 * 512)
        (recsA ((strOfNums ((b.take (q + 512 + (readR ((b.take (q + 512)).drop q)).2.2.1.toNat)).drop (q + 512))).size + 1) (strOfNums ((b.take (q + 512 + (readR ((b.take (q + 512)).drop q)).2.2.1.toNat)).drop (q + 512))) ⟨#[]⟩ ⟨#[]⟩).1
        (recsA ((strOfNums ((b.take (q + 512 + (readR ((b.take (q + 512)).drop q)).2.2.1.toNat)).drop (q + 512))).size + 1) (strOfNums ((b.take (q + 512 + (readR ((b.take (q + 512)).drop q)).2.2.1.toNat)).drop (q + 512))) ⟨#[]⟩ ⟨#[]⟩).2 t
    else if b.length < q + 512 + ((readR ((b.take (q + 512)).drop q)).2.2.1.toNat + 511) / 512 * 512 then
      t ++ [nodeL (readR ((b.take (q + 512)).drop q)).1 (readR ((b.take (q + 512)).drop q)).2.1 (readR ((b.take (q + 512)).drop q)).2.2.2.1 (strOfNums ((b.take (q + 512 + (readR ((b.take (q + 512)).drop q)).2.2.1.toNat)).drop (q + 512))) p l]
    else lenM b f (q + 512 + ((readR ((b.take (q + 512)).drop q)).2.2.1.toNat + 511) / 512 * 512) ⟨#[]⟩ ⟨#[]⟩
      (t ++ [nodeL (readR ((b.take (q + 512)).drop q)).1 (readR ((b.take (q + 512)).drop q)).2.1 (readR ((b.take (q + 512)).drop q)).2.2.2.1 (strOfNums ((b.take (q + 512 + (readR ((b.take (q + 512)).drop q)).2.2.1.toNat)).drop (q + 512))) p l])
def lenR (b : List Int) : List S47 × Int :=
  if treeB (lenM b 200 0 ⟨#[]⟩ ⟨#[]⟩ []) = true ∧ tarB (lenM b 200 0 ⟨#[]⟩ ⟨#[]⟩ []) = b then (lenM b 200 0 ⟨#[]⟩ ⟨#[]⟩ [], 0) else ([], 5)
theorem entry_at {e : EntT} (h : EntOk e) (pre rest : List Int) :
    readR (((pre ++ (entryB e ++ rest)).take (pre.length + 512)).drop pre.length) = (e.name, e.kind, (e.data.size : Int), e.link, true) ∧
    strOfNums (((pre ++ (entryB e ++ rest)).take (pre.length + 512 + e.data.size)).drop (pre.length + 512)) = e.data ∧
    pre.length + 512 + (e.data.size + 511) / 512 * 512 = (pre ++ entryB e).length ∧
    pre.length + 512 + e.data.size ≤ (pre ++ (entryB e ++ rest)).length := by
  have hl := entry_len h.may h.small
  unfold blkN at hl
  have h5 := layB_length e.name e.kind e.data.size e.link h.may.2.1 h.may.2.2.2.1
  have hs := h.small
  have hb : entryB e = layB e.name e.kind e.data.size e.link ++ (bytesOf e.data ++ List.replicate (padN e.data.size) 0) := by
    unfold entryB layR
    rw [if_pos ⟨h.may, by omega, by rw [Int.toNat_natCast]; omega⟩, Int.toNat_natCast]
  refine ⟨?_, ?_, by rw [List.length_append]; omega, by rw [List.length_append, List.length_append]; omega⟩
  · rw [← entry_read h, List.drop_take, List.drop_left, Nat.add_sub_cancel_left, List.take_append_of_le_length (by omega)]
  · rw [hb]
    generalize layB e.name e.kind e.data.size e.link = L at *
    have e1 : pre ++ (L ++ (bytesOf e.data ++ List.replicate (padN e.data.size) 0) ++ rest) = (pre ++ L) ++ (bytesOf e.data ++ (List.replicate (padN e.data.size) 0 ++ rest)) := by simp only [List.append_assoc]
    have e2 : pre.length + 512 = (pre ++ L).length := by rw [List.length_append, h5]
    rw [e1, e2, List.drop_take, List.drop_left, Nat.add_sub_cancel_left, ← bytesOf_length e.data, List.take_left, str_bytesOf]
theorem lenM_entry {e : EntT} (h : EntOk e) (pre rest : List Int) (f : Nat) (p l : ByteArray) (t : List S47) (ht : t.length ≤ 400) :
    lenM (pre ++ (entryB e ++ rest)) (f + 1) pre.length p l t =
      if e.kind = 5 then lenM (pre ++ (entryB e ++ rest)) f (pre ++ entryB e).length (recsA (e.data.size + 1) e.data ⟨#[]⟩ ⟨#[]⟩).1 (recsA (e.data.size + 1) e.data ⟨#[]⟩ ⟨#[]⟩).2 t
      else lenM (pre ++ (entryB e ++ rest)) f (pre ++ entryB e).length ⟨#[]⟩ ⟨#[]⟩ (t ++ [nodeL e.name e.kind e.link e.data p l]) := by
  obtain ⟨h1, h2, h3, h4⟩ := entry_at h pre rest
  have h6 : (pre ++ entryB e).length ≤ (pre ++ (entryB e ++ rest)).length := by simp only [List.length_append]; omega
  generalize hB : pre ++ (entryB e ++ rest) = B at *
  generalize pre.length = q at *
  conv => lhs; unfold lenM
  rw [if_neg (by omega), h1]
  dsimp only
  rw [if_neg (by simp only [Bool.true_eq_false, false_or]; omega), Int.toNat_natCast, h2, h3, if_neg (by omega : ¬ B.length < (pre ++ entryB e).length)]
theorem ahead_none {n : S47} (h : goodN n = true) (hz : (extraN n).size = 0) : aheadP n = ⟨#[]⟩ ∧ aheadL n = ⟨#[]⟩ := by
  have h1 := recs_node h
  rw [recsA_nil _ _ _ _ hz] at h1
  exact ⟨(Prod.mk.inj h1).1.symm, (Prod.mk.inj h1).2.symm⟩
theorem node_told {n : S47} (h : goodN n = true) : nodeL (ownE n).name (ownE n).kind (ownE n).link (ownE n).data (aheadP n) (aheadL n) = n := by
  obtain ⟨h1, h2, h3⟩ := good_kinds h
  obtain ⟨g1, g2, g3, g4, g5⟩ := nameN_spec h
  have e0 : (⟨#[]⟩ : ByteArray).size = 0 := rfl
  have hn : (ownE n).name = cutS (nameN n) := by unfold ownE; split <;> rfl
  have hk : (ownE n).kind = n.f1 := by unfold ownE; split <;> rfl
  have hlk : (ownE n).link = if n.f1 = 4 then cutS n.f2 else ⟨#[]⟩ := by unfold ownE; split <;> rfl
  have hd : (ownE n).data = if n.f1 = 4 then ⟨#[]⟩ else n.f2 := by unfold ownE; split <;> rfl
  have a1 : nameL (cutS (nameN n)) (aheadP n) = nameN n := by
    unfold nameL aheadP
    by_cases p : 100 < (nameN n).size
    · rw [if_pos p, if_neg g1]
    · rw [if_neg p, if_pos e0, cutS_short _ (by omega)]
  unfold nodeL
  rw [hn, a1, name_back h, hk, hlk, hd]
  by_cases k : n.f1 = 4
  · have a2 : nameL (cutS n.f2) (aheadL n) = n.f2 := by
      by_cases p : 100 < n.f2.size
      · have e : aheadL n = n.f2 := by unfold aheadL; rw [if_pos ⟨k, p⟩]
        unfold nameL
        rw [e, if_neg (by omega)]
      · have e : aheadL n = ⟨#[]⟩ := by unfold aheadL; rw [if_neg (fun x => p x.2)]
        unfold nameL
        rw [e, if_pos e0, cutS_short _ (by omega)]
    rw [if_pos k, if_pos k, a2]
  · rw [if_neg k, if_neg k]
theorem zeros_none : (readR (List.replicate 512 0)).2.2.2.2 = false := by
  rcases readR_or (List.replicate 512 0) with e | ⟨a0, a1, a2, a3, e⟩
  · rw [e]
  · exfalso
    have hl := readR_true e
    unfold layR at hl
    split at hl
    · rename_i hm
      have hb := (Prod.mk.inj hl).1
      rw [layB_canon _ _ _ _ hm.1.2.1 hm.1.2.2.2.1] at hb
      have h0 := hm.1.1
      have hz := hm.1.2.2.1
      cases hd : a0.data.toList with
      | nil => exact absurd (by rw [← data_length, hd]; rfl) h0
      | cons c l =>
        rw [hd] at hz
        have hc : c ≠ 0 := fun x => hz (by simp [x])
        have hb2 : bytesOf a0 = (c.toNat : Int) :: l.map fun b => (b.toNat : Int) := by
          unfold bytesOf
          rw [hd]
          rfl
        unfold canonA padS at hb
        rw [hb2] at hb
        have h3 := congrArg List.head? hb
        rw [List.head?_replicate] at h3
        have h4 : (c.toNat : Int) = 0 := by
          have h5 : some (c.toNat : Int) = some 0 := h3
          exact Option.some.inj h5
        apply hc
        apply UInt8.toNat_inj.1
        have : c.toNat = 0 := by omega
        rw [this]
        rfl
    · exact absurd (Prod.mk.inj hl).2 (by decide)
theorem lenM_ok : ∀ (u : List S47) (f : Nat) (t : List S47) (pre : List Int), (∀ n ∈ u, goodN n = true) → t.length + u.length ≤ 400 → 2 * u.length < f → lenM (pre ++ ((entsT u).flatMap entryB ++ List.replicate 1024 0)) f pre.length ⟨#[]⟩ ⟨#[]⟩ t = t ++ u
  | [], f, t, pre, _, _, hf => by
    obtain ⟨f, rfl⟩ : ∃ k, f = k + 1 := ⟨f - 1, by omega⟩
    have e1 : (((pre ++ List.replicate 1024 0).take (pre.length + 512)).drop pre.length : List Int) = List.replicate 512 0 := by
      rw [List.drop_take, List.drop_left, Nat.add_sub_cancel_left, List.take_replicate]
      rfl
    have e2 : (entsT ([] : List S47)).flatMap entryB ++ List.replicate 1024 0 = List.replicate 1024 0 := rfl
    rw [e2]
    unfold lenM
    rw [e1, List.append_nil]
    split
    · rfl
    · rw [if_pos (.inl zeros_none)]
  | n :: u, f, t, pre, hg, hl, hf => by
    rw [List.length_cons] at hl hf
    have gn := hg n List.mem_cons_self
    have ho := ents_ok1 gn
    have hk : (ownE n).kind = n.f1 := by unfold ownE; split <;> rfl
    have h5 : ¬ (ownE n).kind = 5 := by
      rw [hk]
      have := (good_kinds gn).2.2
      omega
    have htold := node_told gn
    have ih := fun (f : Nat) (pre : List Int) => lenM_ok u f (t ++ [n]) pre (fun x hx => hg x (List.mem_cons_of_mem _ hx)) (by rw [List.length_append, List.length_singleton]; omega)
    have er : t ++ [n] ++ u = t ++ n :: u := by simp
    have e1 : (entsT (n :: u)).flatMap entryB ++ List.replicate 1024 0 = (entsN n).flatMap entryB ++ ((entsT u).flatMap entryB ++ List.replicate 1024 0) := by
      unfold entsT
      rw [List.flatMap_cons, List.flatMap_append]
      simp only [List.append_assoc]
    rw [e1]
    generalize (entsT u).flatMap entryB ++ List.replicate 1024 0 = T at *
    unfold entsN at ho ⊢
    by_cases hz : (extraN n).size = 0
    · rw [if_pos hz] at ho ⊢
      obtain ⟨f, rfl⟩ : ∃ k, f = k + 1 := ⟨f - 1, by omega⟩
      obtain ⟨p1, p2⟩ := ahead_none gn hz
      rw [p1, p2] at htold
      simp only [List.nil_append, List.flatMap_cons, List.flatMap_nil, List.append_nil]
      rw [lenM_entry (ho (ownE n) (by simp)) pre T f _ _ _ (by omega), if_neg h5, htold, ← List.append_assoc, ih f _ (by omega), er]
    · rw [if_neg hz] at ho ⊢
      obtain ⟨f, rfl⟩ : ∃ k, f = k + 2 := ⟨f - 2, by omega⟩
      have hp := ho ⟨⟨#[112, 97, 120]⟩, 5, ⟨#[]⟩, extraN n⟩ (by simp)
      have hq := ho (ownE n) (by simp)
      simp only [List.cons_append, List.nil_append, List.flatMap_cons, List.flatMap_nil, List.append_nil]
      rw [List.append_assoc, lenM_entry hp pre _ (f + 1) _ _ _ (by omega), if_pos rfl, recs_node gn]
      dsimp only
      rw [← List.append_assoc, lenM_entry hq _ T f _ _ _ (by omega), if_neg h5, htold, ← List.append_assoc, ih f _ (by omega), er]
theorem ents_many : ∀ t : List S47, t.length ≤ (entsT t).length
  | [] => Nat.le_refl _
  | n :: t => by
    have ih := ents_many t
    unfold entsT at ih ⊢
    rw [List.flatMap_cons, List.length_append, List.length_cons]
    have : 1 ≤ (entsN n).length := by unfold entsN; simp
    omega
theorem lenR_eq (b : List Int) (hb : b.length ≤ 40000) : lenR b = untR b := by
  unfold lenR
  rcases unt_cases b with e | ⟨t, e, ht, hbt⟩
  · rw [e, if_neg]
    rintro ⟨h1, h2⟩
    have h3 := unt_back h1
    rw [h2, e] at h3
    exact absurd (Prod.mk.inj h3).2 (by decide)
  · have hl : t.length ≤ 79 := by
      have h1 := tarB_len ht
      have h2 := ents_many t
      rw [hbt] at h1
      omega
    have hr : lenM b 200 0 ⟨#[]⟩ ⟨#[]⟩ [] = t := by
      have := lenM_ok t 200 [] [] (treeB_nodes ht) (by simp; omega) (by omega)
      rw [← hbt]
      exact this
    rw [e, hr, if_pos ⟨ht, hbt⟩]
end Go.Proofs.YtdijnmcfpbceaaaGreatDoor.X
