/- Part 4 of what is behind the row RowUntarReads: XUF, XUG, XUH, XUI, Pe0, Pf23, Pf37, XUJ, XCG, XUK, XSK, Pf105, Pf106, Pf80, XSA, XSB, XSC, Pf81, Pf82, Pf63, XSD, Pf62, Pf64, XSE. -/
import Derived.Test.YtdijnmcfpbceaaaGreatDoorMUR3
import Derived.Lib.IndexMore
import Derived.Lib.Strings
import Derived.Lib.AtoiTie
import Derived.Lib.ItoaNum
import Derived.Lib.ItoaMem
import Derived.Below
import Derived.Deep.Draws
import Derived.Deep.AppendLies
import Derived.Maps.AppendAt
import Derived.OwnWalk
import Derived.Laws.BytesArg
import Derived.Laws.MakeOwn
import Derived.Laws.OwnMore
import Derived.Deep.OwnRows
import Derived.Tactics
import Derived.Lib.ConvBytes
import Derived.Laws.Slices
import Derived.WalkKit
import Derived.KernelRfl
import Derived.RowKit3
import Derived.Deep.LoopGhost
import Derived.Deep.QuietTactic
import Derived.BigQuiet
import Derived.WideLaws
import Derived.Deep.DeepCutAuto
import Derived.Deep.CutBlock
import Derived.Deep.RegionHeld3
import Derived.Laws.Rows
import Derived.Lib.AppendStr
import Derived.ArgAppend
import Derived.Laws.IdiomCopy
import Derived.RowKit
import Derived.OrdersHeld
import Derived.Laws.BitsLemmas
import Derived.Test.YtdijnmcfpbceaaaGreatDoorProg
import Derived.Laws.Cover1
import Derived.Laws.StructEq
import Derived.Lib.BufferWrite
import Derived.Laws.CopyOwn
import Derived.Outline
import Derived.WalkLawsBesides
import Derived.WalkSpells
import Derived.LoopTactic
import Derived.Lib.Hide
import Derived.Laws.Bits64b
import Derived.Laws.NewBlocks
import Derived.Lib.AppendIntMem
import Derived.Shelf.Strings.Builder1
import Derived.Shelf.Strings.Builder2
import Derived.Shelf.Small.Utf8
import Derived.Shelf.Small.Strs
import Derived.Shelf.Strings.BuilderF
import Derived.Shelf.Strings.BuilderK
import Derived.Shelf.Strconv.Atoi
import Derived.Shelf.Strconv.Itoa0
import Derived.Shelf.Strconv.Itoa1
import Derived.Shelf.LaysM
import Derived.Shelf.Strconv.Itoa2
import Derived.Shelf.Strconv.Itoa3
import Derived.Shelf.Strconv.Itoa4
import Derived.Shelf.Strconv.AtoiErrFast
import Derived.Shelf.Strconv.ParseIntEmpty
import Derived.Shelf.Strconv.AtoiFail
import Derived.Shelf.Strconv.Clone
import Derived.Shelf.Strconv.SyntaxError
import Derived.Shelf.LaysC
import Derived.Shelf.Strconv.ToError
import Derived.Shelf.Strconv.Lower
import Derived.Shelf.Strconv.ParseUint10
import Derived.Shelf.Strconv.ParseUint10Empty
import Derived.Shelf.Strconv.ParseUint10Any
import Derived.Shelf.Strconv.ParseInt10
import Derived.Shelf.Strconv.AtoiLong
import Derived.Shelf.Strconv.AtoiInnerAll
import Derived.Shelf.Strconv.RangeError
import Derived.Shelf.Strconv.ToErrorRange
import Derived.Shelf.Strconv.AtoiAll
import Derived.Shelf.Strings.Search1
import Derived.Shelf.Strings.Search2
import Derived.Shelf.Strings.Search3
import Derived.Shelf.Strings.Cut
import Derived.Shelf.Strings.Count
import Derived.Shelf.Strings.Shaped
import Derived.Shelf.Strings.Prefix
import Derived.Shelf.Strings.Split
import Derived.Shelf.Bits.Mul64
import Derived.Shelf.Strings.Repeat
import Derived.Shelf.Unicode.DecodeSlow
import Derived.Shelf.Bytes.Small
import Derived.Lib.Bytealg
import Derived.Laws.BitsAllLaws
import Derived.Lib.Repeat
import Derived.Lib.AppendZerosOnto
import Derived.Maps.OwnOps
import Derived.Maps.Views
import Derived.StringKeys
import Derived.Lib.SplitLaws
import Derived.Lib.IndexBytes
import Derived.Lib.IndexLaws
import Derived.Lib.LastIndexByte
namespace Go.Proofs.YtdijnmcfpbceaaaGreatDoor.X
open Go.RowKit Go.Proofs.YtdijnmcfpbceaaaGreatDoorW.PrintWords Go.Proofs.YtdijnmcfpbceaaaGreatDoorW.PrintLast Go.Proofs.YtdijnmcfpbceaaaGreatDoorW.PrintMore Go.Proofs.YtdijnmcfpbceaaaGreatDoor.P
set_option linter.unusedVariables false
set_option linter.unusedSimpArgs false
theorem two_boxesU (w : World) (A B : Array Value) (t t' : TypeId) : ((w.alloc (.cells A t)).alloc (.cells B t')).heap[w.heap.size]? = some (.cells A t (0, 0)) ∧ ((w.alloc (.cells A t)).alloc (.cells B t')).heap[w.heap.size + 1]? = some (.cells B t' (0, 0)) := by
  refine ⟨blk_alloc (blk_new w _) _, ?_⟩
  have := blk_new (w.alloc (.cells A t)) (.cells B t')
  rw [show (w.alloc (.cells A t)).heap.size = w.heap.size + 1 by simp [World.alloc, -World.alloc_eq]] at this
  exact this
def strSz : Value → Nat
  | .string s => s.size
  | _ => 0
theorem belowNew {w w1 : World} (h : Below w.heap.size w w1) (g : Nat) (hg : w.heap.size ≤ g) (o : Nat) (v : Value) : Below w.heap.size w (w1.setCell ⟨g, o, none⟩ v) :=
  ⟨h.os, h.tape, h.output, by rw [sizeG]; exact h.size, fun k hk => (Below.heap_setCell w1 ⟨g, o, none⟩ v k (by show k ≠ g; omega)).trans (h.block k hk)⟩
def entV (x : EntT) : Array Value := #[.string x.name, .string x.link, .string x.data, .int .i64 x.kind]
theorem record_rest {s : ByteArray} (h : (recordM s).2.2.2 = true) : (recordM s).2.2.1.size < s.size := by
  unfold recordM at h ⊢
  dsimp only at h ⊢
  split
  · rename_i v hv
    rw [hv] at h
    dsimp only at h
    split
    · rename_i hc
      rw [if_pos hc] at h
      cases h
    · rename_i hc
      rw [size_mk, List.length_drop, data_length]
      omega
  · rename_i hx
    split at h
    · rename_i v hv
      exact absurd hv (hx v)
    · cases h
set_option maxHeartbeats 4000000 in
set_option maxRecDepth 100000 in
theorem told_calls (w0 : World) (gr : Nat) (l : List Int) (b : Bool) (x : EntT) (ex : ByteArray) (w : World) (hT : Aside0 (Tabs w0)) (hE : Aside0 (ErrV w0)) (hgr : w0.heap.size ≤ gr) (hB : Below w0.heap.size w0 w) (h : UAt w0 w gr (l, b)) (hex : ex.size ≤ 1000000) :
    Calls Tryz.prog 53 #[.pointer (some ⟨gr, 0, none⟩), .agg (entV x), .string ex] w fun e w' => e = .returned (.agg (entV (toldM (ex.size + 1) x ex).1)) ∧ UAt w0 w' gr (l, b || (toldM (ex.size + 1) x ex).2) ∧ StepG w w' gr none := by
  obtain ⟨R, hR⟩ : ∃ R, toldM (ex.size + 1) x ex = R := ⟨_, rfl⟩
  rw [hR]
  have HR := Aside0.mk hR
  clear hR
  have hgl := h.lt
  have HB := Aside0.mk hB
  have H := Aside0.mk h
  clear hB h
  have HT2 := Aside0.mk (two_boxesU w #[.string x.name, .string x.link, .string x.data, .int .i64 x.kind] #[.string ⟨#[]⟩, .string ⟨#[]⟩, .string ⟨#[]⟩, .int .i64 0] 82 82)
  have HB0 := Aside0.mk (below_alloc (below_alloc (Below.refl w.heap.size w) (.cells #[.string x.name, .string x.link, .string x.data, .int .i64 x.kind] 82)) (.cells #[.string ⟨#[]⟩, .string ⟨#[]⟩, .string ⟨#[]⟩, .int .i64 0] 82))
  have HBz := Aside0.mk (below_step HB.out HB0.out)
  have HU0 := Aside0.mk (H.out.keep (HB0.out.block gr hgl))
  have HS0 := Aside0.mk (StepG.of_below (sb := gr) (r := none) HB0.out)
  clear HB H HB0
  unfold entV
  go_enter Tryz.func53, Tryz.ntmps53
  go_wp2_with fail
  generalize (w.alloc (.cells #[.string x.name, .string x.link, .string x.data, .int .i64 x.kind] 82)).alloc (.cells #[.string ⟨#[]⟩, .string ⟨#[]⟩, .string ⟨#[]⟩, .int .i64 0] 82) = W0 at *
  have hgx : w.heap.size ≤ w.heap.size := Nat.le_refl _
  have hgxr : w.heap.size ≠ gr := by omega
  have hgy : w.heap.size ≤ w.heap.size + 1 := by omega
  have hgyr : w.heap.size + 1 ≠ gr := by omega
  generalize hgg : w.heap.size = gx at HT2 hgxr hgyr
  have hgxw : w.heap.size ≤ gx := by omega
  have hxy : gx ≠ gx + 1 := by omega
  generalize hgh : gx + 1 = gy at *
  have hgy : w.heap.size ≤ gy := by omega
  go_loopw [2] (fun v2 wr => ∃ (e' : ByteArray) (x' : EntT) (f : Nat), v2 = .string e' ∧ e'.size < f ∧ e'.size ≤ 1000000 ∧ Aside0 (R = toldM f x' e') ∧ Aside0 (wr.heap[gx]? = some (.cells (entV x') 82 (0, 0))) ∧ Aside0 (wr.heap[gy]? = some (.cells #[.string ⟨#[]⟩, .string ⟨#[]⟩, .string ⟨#[]⟩, .int .i64 0] 82 (0, 0))) ∧ Aside0 (UAt w0 wr gr (l, b)) ∧ Aside0 (StepG w wr gr none) ∧ Aside0 (Below w0.heap.size w0 wr)) (fun v _ => strSz v)
  case atStart => exact ⟨ex, x, ex.size + 1, rfl, by omega, hex, ⟨HR.out.symm⟩, ⟨HT2.out.1⟩, ⟨HT2.out.2⟩, HU0, HS0, HBz⟩
  case round =>
    clear HT2 HU0 HS0 HBz HR
    obtain ⟨e', x', f, rfl, hf, he6, HR, HX, HY, HU, HS, HB⟩ := hrel
    obtain ⟨f, rfl⟩ : ∃ k, f = k + 1 := ⟨f - 1, by omega⟩
    have c0 := (show wr.cell? ⟨gx, 0, none⟩ = some (.string x'.name) from (blk_cell HX.out 0).trans rfl)
    have c1 := (show wr.cell? ⟨gx, 1, none⟩ = some (.string x'.link) from (blk_cell HX.out 1).trans rfl)
    have c2 := (show wr.cell? ⟨gx, 2, none⟩ = some (.string x'.data) from (blk_cell HX.out 2).trans rfl)
    have c3 := (show wr.cell? ⟨gx, 3, none⟩ = some (.int .i64 x'.kind) from (blk_cell HX.out 3).trans rfl)
    by_cases he0 : e'.size = 0
    · have hen : e'.toList = [] := (toList_nil _).2 he0
      have hne : (e'.toList != []) = false := by rw [hen]; rfl
      have hen2 : (e'.toList == []) = true := by rw [hen]; rfl
      clear hen
      have HRx := Aside0.mk (show R = (x', false) from by
        rw [HR.out]
        unfold toldM
        rw [if_pos he0])
      have g0 := Aside0.mk (blk_set HY.out 0 (.string x'.name))
      have g1 := Aside0.mk (blk_set g0.out 1 (.string x'.link))
      have g2 := Aside0.mk (blk_set g1.out 2 (.string x'.data))
      have g3 := Aside0.mk (blk_set g2.out 3 (.int .i64 x'.kind))
      have yg0 := (show (wr).cell? ⟨gy, 0, none⟩ = some (.string ⟨#[]⟩) from (blk_cell HY.out 0).trans rfl)
      have yg1 := (show ((wr).setCell ⟨gy, 0, none⟩ (.string x'.name)).cell? ⟨gy, 1, none⟩ = some (.string ⟨#[]⟩) from (blk_cell g0.out 1).trans rfl)
      have yg2 := (show (((wr).setCell ⟨gy, 0, none⟩ (.string x'.name)).setCell ⟨gy, 1, none⟩ (.string x'.link)).cell? ⟨gy, 2, none⟩ = some (.string ⟨#[]⟩) from (blk_cell g1.out 2).trans rfl)
      have yg3 := (show ((((wr).setCell ⟨gy, 0, none⟩ (.string x'.name)).setCell ⟨gy, 1, none⟩ (.string x'.link)).setCell ⟨gy, 2, none⟩ (.string x'.data)).cell? ⟨gy, 3, none⟩ = some (.int .i64 0) from (blk_cell g2.out 3).trans rfl)
      have fg0 := fun k => blk_frozen HY.out k
      have fg1 := fun k => blk_frozen g0.out k
      have fg2 := fun k => blk_frozen g1.out k
      have fg3 := fun k => blk_frozen g2.out k
      have HF := Aside0.mk (show ∀ (e : Ending) (w' : World), e = .returned (.agg (entV x')) → w' = ((((wr).setCell ⟨gy, 0, none⟩ (.string x'.name)).setCell ⟨gy, 1, none⟩ (.string x'.link)).setCell ⟨gy, 2, none⟩ (.string x'.data)).setCell ⟨gy, 3, none⟩ (.int .i64 x'.kind) → e = .returned (.agg (entV R.1)) ∧ UAt w0 w' gr (l, b || R.2) ∧ StepG w w' gr none from fun e w' h1 h2 => by
        rw [h1, h2, HRx.out]
        refine ⟨rfl, UAt.keep (w := wr) (by rw [Bool.or_false]; exact HU.out) ?_, ((((HS.out).setNew gy hgy _ _).setNew gy hgy _ _).setNew gy hgy _ _).setNew gy hgy _ _⟩
        rw [Below.heap_setCell _ _ _ _ (by show gr ≠ gy; omega), Below.heap_setCell _ _ _ _ (by show gr ≠ gy; omega), Below.heap_setCell _ _ _ _ (by show gr ≠ gy; omega), Below.heap_setCell _ _ _ _ (by show gr ≠ gy; omega)])
      clear g0 g1 g2
      go_wp2_with fail
      (try simp only [Exit.inBlock, Exit.then])
      refine bodyPost_ret (results_single rfl (.cell gy 82 _ (0, 0) _ rfl g3.out Tryz.underlying82 rfl (by kernel_rfl) .nil)) rfl ?_
      exact HF.out _ _ rfl rfl
    · have hnz : e'.toList ≠ [] := fun h => he0 ((toList_nil _).1 h)
      have hne : (e'.toList != []) = true := bne_iff_ne.2 hnz
      have hen2 : (e'.toList == []) = false := beq_eq_false_iff_ne.2 hnz
      go_wp2_with fail
      refine (urecord_calls e' wr ⟨Tabs.below hT.out HB.out⟩ ⟨hE.out.below HB.out⟩ he6).mono ?_
      rintro e w2 ⟨rfl, hb2⟩
      have HB2 := Aside0.mk (below_step HB.out hb2)
      have HX2 := Aside0.mk (blk_below HX.out hb2)
      have HY2 := Aside0.mk (blk_below HY.out hb2)
      have HU2 := Aside0.mk (HU.out.keep (hb2.block gr HU.out.lt))
      have HS2 := Aside0.mk (HS.out.trans (StepG.of_below hb2) (.inl rfl))
      have HRr := Aside0.mk (@record_rest e')
      have HRs := Aside0.mk (show R = if (recordM e').2.2.2 = false then (x', true) else toldM f (putM x' (recordM e').1 (recordM e').2.1) (recordM e').2.2.1 from by
        rw [HR.out]
        conv => lhs; unfold toldM
        rw [if_neg he0])
      clear hb2 HX HY HU HS HB HR c0 c1 c2 c3 hne hen2 hnz
      generalize recordM e' = r at *
      obtain ⟨rk, rv, rr, rok⟩ := r
      dsimp only at *
      obtain ⟨z1, hfz⟩ := HU2.out.bad
      dsimp only at z1
      have c0 := (show w2.cell? ⟨gx, 0, none⟩ = some (.string x'.name) from (blk_cell HX2.out 0).trans rfl)
      have c1 := (show w2.cell? ⟨gx, 1, none⟩ = some (.string x'.link) from (blk_cell HX2.out 1).trans rfl)
      cases rok with
      | false =>
        have HRx := Aside0.mk (show R = (x', true) from by rw [HRs.out, if_pos rfl])
        have HU3 := Aside0.mk (HU2.out.set true)
        have HX3 := Aside0.mk ((Below.heap_setCell w2 ⟨gr, 1, none⟩ (.bool true) gx hgxr).trans HX2.out)
        have HY := Aside0.mk ((Below.heap_setCell w2 ⟨gr, 1, none⟩ (.bool true) gy hgyr).trans HY2.out)
        have HS3 := Aside0.mk (HS2.out.set 1 (.bool true))
        have c0 := (show (w2.setCell ⟨gr, 1, none⟩ (.bool true)).cell? ⟨gx, 0, none⟩ = some (.string x'.name) from (blk_cell HX3.out 0).trans rfl)
        have c1 := (show (w2.setCell ⟨gr, 1, none⟩ (.bool true)).cell? ⟨gx, 1, none⟩ = some (.string x'.link) from (blk_cell HX3.out 1).trans rfl)
        have c2 := (show (w2.setCell ⟨gr, 1, none⟩ (.bool true)).cell? ⟨gx, 2, none⟩ = some (.string x'.data) from (blk_cell HX3.out 2).trans rfl)
        have c3 := (show (w2.setCell ⟨gr, 1, none⟩ (.bool true)).cell? ⟨gx, 3, none⟩ = some (.int .i64 x'.kind) from (blk_cell HX3.out 3).trans rfl)
        have g0 := Aside0.mk (blk_set HY.out 0 (.string x'.name))
        have g1 := Aside0.mk (blk_set g0.out 1 (.string x'.link))
        have g2 := Aside0.mk (blk_set g1.out 2 (.string x'.data))
        have g3 := Aside0.mk (blk_set g2.out 3 (.int .i64 x'.kind))
        have yg0 := (show (w2.setCell ⟨gr, 1, none⟩ (.bool true)).cell? ⟨gy, 0, none⟩ = some (.string ⟨#[]⟩) from (blk_cell HY.out 0).trans rfl)
        have yg1 := (show ((w2.setCell ⟨gr, 1, none⟩ (.bool true)).setCell ⟨gy, 0, none⟩ (.string x'.name)).cell? ⟨gy, 1, none⟩ = some (.string ⟨#[]⟩) from (blk_cell g0.out 1).trans rfl)
        have yg2 := (show (((w2.setCell ⟨gr, 1, none⟩ (.bool true)).setCell ⟨gy, 0, none⟩ (.string x'.name)).setCell ⟨gy, 1, none⟩ (.string x'.link)).cell? ⟨gy, 2, none⟩ = some (.string ⟨#[]⟩) from (blk_cell g1.out 2).trans rfl)
        have yg3 := (show ((((w2.setCell ⟨gr, 1, none⟩ (.bool true)).setCell ⟨gy, 0, none⟩ (.string x'.name)).setCell ⟨gy, 1, none⟩ (.string x'.link)).setCell ⟨gy, 2, none⟩ (.string x'.data)).cell? ⟨gy, 3, none⟩ = some (.int .i64 0) from (blk_cell g2.out 3).trans rfl)
        have fg0 := fun k => blk_frozen HY.out k
        have fg1 := fun k => blk_frozen g0.out k
        have fg2 := fun k => blk_frozen g1.out k
        have fg3 := fun k => blk_frozen g2.out k
        have HF := Aside0.mk (show ∀ (e : Ending) (w' : World), e = .returned (.agg (entV x')) → w' = ((((w2.setCell ⟨gr, 1, none⟩ (.bool true)).setCell ⟨gy, 0, none⟩ (.string x'.name)).setCell ⟨gy, 1, none⟩ (.string x'.link)).setCell ⟨gy, 2, none⟩ (.string x'.data)).setCell ⟨gy, 3, none⟩ (.int .i64 x'.kind) → e = .returned (.agg (entV R.1)) ∧ UAt w0 w' gr (l, b || R.2) ∧ StepG w w' gr none from fun e w' h1 h2 => by
          rw [h1, h2, HRx.out]
          refine ⟨rfl, UAt.keep (w := w2.setCell ⟨gr, 1, none⟩ (.bool true)) (by rw [Bool.or_true]; exact HU3.out) ?_, ((((HS3.out).setNew gy hgy _ _).setNew gy hgy _ _).setNew gy hgy _ _).setNew gy hgy _ _⟩
          rw [Below.heap_setCell _ _ _ _ (by show gr ≠ gy; omega), Below.heap_setCell _ _ _ _ (by show gr ≠ gy; omega), Below.heap_setCell _ _ _ _ (by show gr ≠ gy; omega), Below.heap_setCell _ _ _ _ (by show gr ≠ gy; omega)])
        clear g0 g1 g2
        go_wp2_with fail
        (try simp only [Exit.inBlock, Exit.then])
        refine bodyPost_ret (results_single rfl (.cell gy 82 _ (0, 0) _ rfl g3.out Tryz.underlying82 rfl (by kernel_rfl) .nil)) rfl ?_
        exact HF.out _ _ rfl rfl
      | true =>
        have hrs : rr.size < e'.size := HRr.out rfl
        obtain ⟨bk, hbk⟩ : ∃ q, (rk.toList == pathS.toList) = q := ⟨_, rfl⟩
        have hbk1 : (rk.toList == [112, 97, 116, 104]) = bk := by rw [← hbk, show pathS.toList = [112, 97, 116, 104] from by rw [ByteArray.toList_eq]; rfl]
        have HP := Aside0.mk (show (putM x' rk rv) = if bk = true then { x' with name := rv } else { x' with link := rv } from by
          unfold putM
          by_cases e : rk = pathS
          · rw [if_pos e, if_pos]
            rw [← hbk, e]
            simp
          · rw [if_neg e, if_neg]
            rw [← hbk]
            intro h
            apply e
            have := beq_iff_eq.1 h
            rw [ByteArray.toList_eq, ByteArray.toList_eq] at this
            exact toList_extA this)
        rw [if_neg (by simp)] at HRs
        have hf2 := fun k => blk_frozen HX2.out k
        cases bk with
        | true =>
          have HXn := Aside0.mk (blk_set HX2.out 0 (.string rv))
          go_wp2_with fail
          refine ⟨⟨rr, { x' with name := rv }, f, rfl, by omega, by omega, ⟨by rw [HRs.out, HP.out]; rfl⟩, HXn, ⟨(Below.heap_setCell w2 ⟨gx, 0, none⟩ _ gy (by show gy ≠ gx; omega)).trans HY2.out⟩, ⟨HU2.out.keep (Below.heap_setCell w2 ⟨gx, 0, none⟩ _ gr (by show gr ≠ gx; omega))⟩, ⟨HS2.out.setNew gx hgxw _ _⟩, ⟨belowNew HB2.out gx (by omega) _ _⟩⟩, by simp only [strSz]; omega⟩
        | false =>
          have HXn := Aside0.mk (blk_set HX2.out 1 (.string rv))
          go_wp2_with fail
          refine ⟨⟨rr, { x' with link := rv }, f, rfl, by omega, by omega, ⟨by rw [HRs.out, HP.out]; rfl⟩, HXn, ⟨(Below.heap_setCell w2 ⟨gx, 1, none⟩ _ gy (by show gy ≠ gx; omega)).trans HY2.out⟩, ⟨HU2.out.keep (Below.heap_setCell w2 ⟨gx, 1, none⟩ _ gr (by show gr ≠ gx; omega))⟩, ⟨HS2.out.setNew gx hgxw _ _⟩, ⟨belowNew HB2.out gx (by omega) _ _⟩⟩, by simp only [strSz]; omega⟩
end Go.Proofs.YtdijnmcfpbceaaaGreatDoor.X

namespace Go.Proofs.YtdijnmcfpbceaaaGreatDoor.X
open Go.RowKit Go.Proofs.YtdijnmcfpbceaaaGreatDoorW.PrintWords Go.Proofs.YtdijnmcfpbceaaaGreatDoorW.PrintLast Go.Proofs.YtdijnmcfpbceaaaGreatDoorW.PrintMore Go.Proofs.YtdijnmcfpbceaaaGreatDoor.P
set_option linter.unusedVariables false
set_option linter.unusedSimpArgs false
theorem strN_size (l : List Int) : (strOfNums l).size = l.length := by rw [strOfNums_mk, size_mk, List.length_map]
theorem readR_link (b : List Int) : (readR b).2.2.2.1.size ≤ b.length := by
  unfold readR
  split
  · show (readL b).size ≤ _
    unfold readL fieldR
    rw [strN_size]
    have h1 := List.Sublist.length_le (List.takeWhile_sublist (fun x : Int => x != 0) (l := (b.take 257).drop 157))
    rw [List.length_drop, List.length_take] at h1
    omega
  · exact Nat.zero_le _
theorem entryM_facts (l : List Int) (b : Bool) (hb : Bytes l) : (entryM (l, b)).1.data.size ≤ l.length ∧ (entryM (l, b)).1.link.size ≤ l.length ∧ (entryM (l, b)).2.1.length ≤ l.length ∧ Bytes (entryM (l, b)).2.1 := by
  unfold entryM
  dsimp only
  have h1 := takeM_len (l, b) 512
  have h2 := takeM_Bytes (st := (l, b)) hb 512
  generalize takeM (l, b) 512 = t1 at *
  have h3 := readR_link t1.1
  have h4 := takeM_len (t1.2.1, t1.2.2 || !(readR t1.1).2.2.2.2) (readR t1.1).2.2.1
  have h5 := takeM_Bytes (st := (t1.2.1, t1.2.2 || !(readR t1.1).2.2.2.2)) h2.2 (readR t1.1).2.2.1
  generalize takeM (t1.2.1, t1.2.2 || !(readR t1.1).2.2.2.2) (readR t1.1).2.2.1 = t2 at *
  have h6 := takeM_len t2.2 ((512 - (readR t1.1).2.2.1.tmod 512).tmod 512)
  have h7 := takeM_Bytes (st := t2.2) h5.2 ((512 - (readR t1.1).2.2.1.tmod 512).tmod 512)
  generalize takeM t2.2 ((512 - (readR t1.1).2.2.1.tmod 512).tmod 512) = t3 at *
  dsimp only at *
  rw [strN_size]
  exact ⟨by omega, by omega, by omega, h7.2⟩
theorem trimM_size (s : ByteArray) : (trimM s).size ≤ s.size := by
  unfold trimM Lib.trimSuffix
  rw [size_mk]
  split
  · rw [List.length_take, data_length]
    omega
  · rw [data_length]
    exact Nat.le_refl _
theorem cut_after (l s : List UInt8) : (Lib.cut l s).2.1.length ≤ l.length := by
  unfold Lib.cut
  split
  · rw [List.length_drop]
    omega
  · simp
theorem record_value (s : ByteArray) : (recordM s).2.1.size ≤ s.size ∧ (recordM s).2.2.1.size ≤ s.size := by
  unfold recordM
  dsimp only
  split
  · split
    · exact ⟨Nat.zero_le _, Nat.zero_le _⟩
    · rename_i v hv hc
      refine ⟨Nat.le_trans (trimM_size _) ?_, ?_⟩
      · rw [size_mk]
        refine Nat.le_trans (cut_after _ _) ?_
        rw [List.length_drop, List.length_take, data_length]
        omega
      · rw [size_mk, List.length_drop, data_length]
        omega
  · exact ⟨Nat.zero_le _, Nat.zero_le _⟩
theorem told_facts : ∀ (f : Nat) (x : EntT) (e : ByteArray) (n : Nat), x.link.size ≤ n → e.size ≤ n → (toldM f x e).1.data = x.data ∧ (toldM f x e).1.link.size ≤ n ∧ (toldM f x e).1.kind = x.kind
  | 0, x, e, n, h, _ => ⟨rfl, h, rfl⟩
  | f + 1, x, e, n, h, he => by
    unfold toldM
    split
    · exact ⟨rfl, h, rfl⟩
    · dsimp only
      split
      · exact ⟨rfl, h, rfl⟩
      · obtain ⟨a, b⟩ := record_value e
        have hp : (putM x (recordM e).1 (recordM e).2.1).data = x.data ∧ (putM x (recordM e).1 (recordM e).2.1).link.size ≤ n ∧ (putM x (recordM e).1 (recordM e).2.1).kind = x.kind := by
          unfold putM
          split
          · exact ⟨rfl, h, rfl⟩
          · exact ⟨rfl, by show (recordM e).2.1.size ≤ n; omega, rfl⟩
        obtain ⟨c, d, g⟩ := told_facts f _ (recordM e).2.2.1 n hp.2.1 (by omega)
        exact ⟨c.trans hp.1, d, g.trans hp.2.2⟩
set_option maxHeartbeats 4000000 in
set_option maxRecDepth 100000 in
theorem unode_calls (w0 : World) (gr : Nat) (l : List Int) (b : Bool) (w : World) (hT : Aside0 (Tabs w0)) (hE : Aside0 (ErrV w0)) (hgr : w0.heap.size ≤ gr) (hB : Below w0.heap.size w0 w) (h : UAt w0 w gr (l, b)) (hl : l.length ≤ 1000000) (hby : Bytes l) :
    Calls Tryz.prog 39 #[.pointer (some ⟨gr, 0, none⟩)] w fun e w' => e = .returned (.agg #[.string (nodeM (l, b)).1.f0, .int .i64 (nodeM (l, b)).1.f1, .string (nodeM (l, b)).1.f2]) ∧ UAt w0 w' gr (nodeM (l, b)).2 ∧ StepG w w' gr none := by
  obtain ⟨R, hR⟩ : ∃ R, nodeM (l, b) = R := ⟨_, rfl⟩
  rw [hR]
  have HR := Aside0.mk hR
  clear hR
  have hgl := h.lt
  have HB := Aside0.mk (below_alloc hB (.cells #[.string ⟨#[]⟩, .int .i64 0, .string ⟨#[]⟩] 47))
  have H := Aside0.mk (h.keep (w1 := w.alloc (.cells #[.string ⟨#[]⟩, .int .i64 0, .string ⟨#[]⟩] 47)) ((below_alloc (Below.refl w.heap.size w) _).block gr hgl))
  have HG := Aside0.mk (blk_new w (.cells #[.string ⟨#[]⟩, .int .i64 0, .string ⟨#[]⟩] 47))
  have HS0 := Aside0.mk (StepG.of_below (sb := gr) (r := none) (below_alloc (Below.refl w.heap.size w) (.cells #[.string ⟨#[]⟩, .int .i64 0, .string ⟨#[]⟩] 47)))
  clear hB h
  go_enter Tryz.func39, Tryz.ntmps39
  go_wp2_with fail
  generalize w.alloc (.cells #[.string ⟨#[]⟩, .int .i64 0, .string ⟨#[]⟩] 47) = W0 at *
  have hgy : w.heap.size ≤ w.heap.size := Nat.le_refl _
  have hyr : w.heap.size ≠ gr := by omega
  generalize hgg : w.heap.size = gy at HG hyr
  have hgy : w.heap.size ≤ gy := by omega
  have hry : (⟨gy, 0, none⟩ : Addr).block ≠ gr ∧ gr ≠ gy := ⟨hyr, Ne.symm hyr⟩
  have hry : gr ≠ gy := hry.2
  refine (uentry_calls w0 gr l b W0 hT hgr HB.out H.out hl hby).mono ?_
  rintro e w1 ⟨rfl, hU1, hS1⟩
  have HM := Aside0.mk (show R = (if (entryM (l, b)).1.kind = 5 then (nodeX (toldM ((entryM (l, b)).1.data.size + 1) (entryM (entryM (l, b)).2).1 (entryM (l, b)).1.data).1, ((entryM (entryM (l, b)).2).2.1, (entryM (entryM (l, b)).2).2.2 || (toldM ((entryM (l, b)).1.data.size + 1) (entryM (entryM (l, b)).2).1 (entryM (l, b)).1.data).2)) else (nodeX (entryM (l, b)).1, (entryM (l, b)).2)) from by
    rw [← HR.out]
    rfl)
  clear HR
  obtain ⟨f1, f2, f3, f4⟩ := entryM_facts l b hby
  have hb4 := Aside0.mk f4
  clear f4
  generalize entryM (l, b) = A at *
  obtain ⟨x1, l1, b1⟩ := A
  dsimp only at *
  have HS1 := Aside0.mk (HS0.out.trans hS1 (.inl rfl))
  have HB1 := Aside0.mk (belowStepG HB.out hS1 hgr (fun k hk => by cases hk))
  have HG1 := Aside0.mk ((hS1.block gy (blk_lt HG.out) hyr (by simp)).trans HG.out)
  have hgyw : gy < w1.heap.size := blk_lt HG1.out
  have HUa := Aside0.mk hU1
  have HSa := HS1
  have hs1 : w.heap.size ≤ w1.heap.size := HS1.out.size
  clear hU1 hS1 HS0 HB H HG HS1
  obtain ⟨b5, hb5⟩ : ∃ q, (x1.kind == 5) = q := ⟨_, rfl⟩
  have hb5d : decide (x1.kind = 5) = b5 := by rw [← hb5]; rfl
  have hgxw : w.heap.size ≤ w1.heap.size := hs1
  have hyx : gy ≠ w1.heap.size := by omega
  have hrx : gr ≠ w1.heap.size := by have := HUa.out.lt; omega
  cases b5 with
  | false =>
    have HRx := Aside0.mk (show R = (nodeX x1, (l1, b1)) from by rw [HM.out, if_neg (fun e => by rw [e] at hb5; cases hb5)])
    clear HM
    have hcs : x1.data.size + x1.link.size ≤ 2000000 := by omega
    clear f1 f2
    obtain ⟨bd, hbd⟩ : ∃ q, (x1.name.toList == dotS.toList) = q := ⟨_, rfl⟩
    have hbd1 : (x1.name.toList == [46]) = bd := by rw [← hbd, show dotS.toList = [46] from by rw [ByteArray.toList_eq]; rfl]
    have HN := Aside0.mk (show nodeX x1 = ⟨if bd = true then ⟨#[]⟩ else x1.name, x1.kind, x1.data ++ x1.link⟩ from by
      unfold nodeX
      congr 1
      by_cases e : x1.name = dotS
      · rw [if_pos e, if_pos]
        rw [← hbd, e]
        simp
      · rw [if_neg e, if_neg]
        rw [← hbd]
        intro h
        apply e
        have := beq_iff_eq.1 h
        rw [ByteArray.toList_eq, ByteArray.toList_eq] at this
        exact toList_extA this)
    clear hbd
    obtain ⟨cn, ck, cl, cd⟩ := x1
    dsimp only at *
    cases bd with
    | true =>
      have HBx := Aside0.mk (below_alloc (Below.refl w1.heap.size w1) (.cells #[.string ⟨#[]⟩, .string cl, .string cd, .int .i64 ck] 82))
      have HX1 := Aside0.mk (blk_new w1 (.cells #[.string ⟨#[]⟩, .string cl, .string cd, .int .i64 ck] 82))
      generalize hgx : w1.heap.size = gx at HX1
      have d0 := (show ((w1.alloc (.cells #[.string ⟨#[]⟩, .string cl, .string cd, .int .i64 ck] 82))).cell? ⟨gx, 0, none⟩ = some (.string ⟨#[]⟩) from (blk_cell HX1.out 0).trans rfl)
      have d1 := (show ((w1.alloc (.cells #[.string ⟨#[]⟩, .string cl, .string cd, .int .i64 ck] 82))).cell? ⟨gx, 1, none⟩ = some (.string cl) from (blk_cell HX1.out 1).trans rfl)
      have d2 := (show ((w1.alloc (.cells #[.string ⟨#[]⟩, .string cl, .string cd, .int .i64 ck] 82))).cell? ⟨gx, 2, none⟩ = some (.string cd) from (blk_cell HX1.out 2).trans rfl)
      have d3 := (show ((w1.alloc (.cells #[.string ⟨#[]⟩, .string cl, .string cd, .int .i64 ck] 82))).cell? ⟨gx, 3, none⟩ = some (.int .i64 ck) from (blk_cell HX1.out 3).trans rfl)
      subst hgx
      have g0 := Aside0.mk (blk_set HG1.out 0 (.string ⟨#[]⟩))
      have g1 := Aside0.mk (blk_set g0.out 1 (.int .i64 ck))
      have g2 := Aside0.mk (blk_set g1.out 2 (.string (cd ++ cl)))
      have yg0 := (show ((w1).alloc (.cells #[.string ⟨#[]⟩, .string cl, .string cd, .int .i64 ck] 82)).cell? ⟨gy, 0, none⟩ = some (.string ⟨#[]⟩) from (blk_cell (blk_alloc HG1.out _) 0).trans rfl)
      have fg0 := (show ∀ k, ((w1).alloc (.cells #[.string ⟨#[]⟩, .string cl, .string cd, .int .i64 ck] 82)).frozen? ⟨gy, k, none⟩ = false from fun k => blk_frozen (blk_alloc HG1.out _) k)
      have yg1 := (show (((w1).setCell ⟨gy, 0, none⟩ (.string ⟨#[]⟩)).alloc (.cells #[.string ⟨#[]⟩, .string cl, .string cd, .int .i64 ck] 82)).cell? ⟨gy, 1, none⟩ = some (.int .i64 0) from (blk_cell (blk_alloc g0.out _) 1).trans rfl)
      have fg1 := (show ∀ k, (((w1).setCell ⟨gy, 0, none⟩ (.string ⟨#[]⟩)).alloc (.cells #[.string ⟨#[]⟩, .string cl, .string cd, .int .i64 ck] 82)).frozen? ⟨gy, k, none⟩ = false from fun k => blk_frozen (blk_alloc g0.out _) k)
      have yg2 := (show ((((w1).setCell ⟨gy, 0, none⟩ (.string ⟨#[]⟩)).setCell ⟨gy, 1, none⟩ (.int .i64 ck)).alloc (.cells #[.string ⟨#[]⟩, .string cl, .string cd, .int .i64 ck] 82)).cell? ⟨gy, 2, none⟩ = some (.string ⟨#[]⟩) from (blk_cell (blk_alloc g1.out _) 2).trans rfl)
      have fg2 := (show ∀ k, ((((w1).setCell ⟨gy, 0, none⟩ (.string ⟨#[]⟩)).setCell ⟨gy, 1, none⟩ (.int .i64 ck)).alloc (.cells #[.string ⟨#[]⟩, .string cl, .string cd, .int .i64 ck] 82)).frozen? ⟨gy, k, none⟩ = false from fun k => blk_frozen (blk_alloc g1.out _) k)
      have g3 := Aside0.mk (blk_alloc g2.out (.cells #[.string ⟨#[]⟩, .string cl, .string cd, .int .i64 ck] 82))
      have HF := Aside0.mk (show ∀ (e : Ending) (w' : World), e = .returned (.agg #[.string ⟨#[]⟩, .int .i64 ck, .string (cd ++ cl)]) → w' = ((((w1).setCell ⟨gy, 0, none⟩ (.string ⟨#[]⟩)).setCell ⟨gy, 1, none⟩ (.int .i64 ck)).setCell ⟨gy, 2, none⟩ (.string (cd ++ cl))).alloc (.cells #[.string ⟨#[]⟩, .string cl, .string cd, .int .i64 ck] 82) → e = .returned (.agg #[.string R.1.f0, .int .i64 R.1.f1, .string R.1.f2]) ∧ UAt w0 w' gr R.2 ∧ StepG w w' gr none from fun e w' h1 h2 => by
        rw [h1, h2, HRx.out]
        dsimp only
        rw [HN.out]
        have hal := below_alloc (Below.refl ((((w1).setCell ⟨gy, 0, none⟩ (.string ⟨#[]⟩)).setCell ⟨gy, 1, none⟩ (.int .i64 ck)).setCell ⟨gy, 2, none⟩ (.string (cd ++ cl))).heap.size ((((w1).setCell ⟨gy, 0, none⟩ (.string ⟨#[]⟩)).setCell ⟨gy, 1, none⟩ (.int .i64 ck)).setCell ⟨gy, 2, none⟩ (.string (cd ++ cl)))) (.cells #[.string ⟨#[]⟩, .string cl, .string cd, .int .i64 ck] 82)
        refine ⟨rfl, HUa.out.keep ?_, (((HSa.out.setNew gy hgy _ _).setNew gy hgy _ _).setNew gy hgy _ _).trans (StepG.of_below hal) (.inl rfl)⟩
        rw [hal.block gr (by rw [sizeG, sizeG, sizeG]; exact HUa.out.lt), Below.heap_setCell _ _ _ _ hry, Below.heap_setCell _ _ _ _ hry, Below.heap_setCell _ _ _ _ hry])
      clear HN HRx g0 g1 HG1 HUa HSa HB1 HBx HX1
      go_wp2_with fail
      (try simp only [Exit.inBlock, Exit.then])
      refine bodyPost_ret (results_single rfl (.cell gy 47 _ (0, 0) _ rfl g3.out Tryz.underlying47 rfl (by kernel_rfl) .nil)) rfl ?_
      exact HF.out _ _ rfl rfl
    | false =>
      have HBx := Aside0.mk (below_alloc (Below.refl w1.heap.size w1) (.cells #[.string cn, .string cl, .string cd, .int .i64 ck] 82))
      have HX1 := Aside0.mk (blk_new w1 (.cells #[.string cn, .string cl, .string cd, .int .i64 ck] 82))
      generalize hgx : w1.heap.size = gx at HX1
      have d0 := (show ((w1.alloc (.cells #[.string cn, .string cl, .string cd, .int .i64 ck] 82))).cell? ⟨gx, 0, none⟩ = some (.string cn) from (blk_cell HX1.out 0).trans rfl)
      have d1 := (show ((w1.alloc (.cells #[.string cn, .string cl, .string cd, .int .i64 ck] 82))).cell? ⟨gx, 1, none⟩ = some (.string cl) from (blk_cell HX1.out 1).trans rfl)
      have d2 := (show ((w1.alloc (.cells #[.string cn, .string cl, .string cd, .int .i64 ck] 82))).cell? ⟨gx, 2, none⟩ = some (.string cd) from (blk_cell HX1.out 2).trans rfl)
      have d3 := (show ((w1.alloc (.cells #[.string cn, .string cl, .string cd, .int .i64 ck] 82))).cell? ⟨gx, 3, none⟩ = some (.int .i64 ck) from (blk_cell HX1.out 3).trans rfl)
      subst hgx
      have g0 := Aside0.mk (blk_set HG1.out 0 (.string cn))
      have g1 := Aside0.mk (blk_set g0.out 1 (.int .i64 ck))
      have g2 := Aside0.mk (blk_set g1.out 2 (.string (cd ++ cl)))
      have yg0 := (show ((w1).alloc (.cells #[.string cn, .string cl, .string cd, .int .i64 ck] 82)).cell? ⟨gy, 0, none⟩ = some (.string ⟨#[]⟩) from (blk_cell (blk_alloc HG1.out _) 0).trans rfl)
      have fg0 := (show ∀ k, ((w1).alloc (.cells #[.string cn, .string cl, .string cd, .int .i64 ck] 82)).frozen? ⟨gy, k, none⟩ = false from fun k => blk_frozen (blk_alloc HG1.out _) k)
      have yg1 := (show (((w1).setCell ⟨gy, 0, none⟩ (.string cn)).alloc (.cells #[.string cn, .string cl, .string cd, .int .i64 ck] 82)).cell? ⟨gy, 1, none⟩ = some (.int .i64 0) from (blk_cell (blk_alloc g0.out _) 1).trans rfl)
      have fg1 := (show ∀ k, (((w1).setCell ⟨gy, 0, none⟩ (.string cn)).alloc (.cells #[.string cn, .string cl, .string cd, .int .i64 ck] 82)).frozen? ⟨gy, k, none⟩ = false from fun k => blk_frozen (blk_alloc g0.out _) k)
      have yg2 := (show ((((w1).setCell ⟨gy, 0, none⟩ (.string cn)).setCell ⟨gy, 1, none⟩ (.int .i64 ck)).alloc (.cells #[.string cn, .string cl, .string cd, .int .i64 ck] 82)).cell? ⟨gy, 2, none⟩ = some (.string ⟨#[]⟩) from (blk_cell (blk_alloc g1.out _) 2).trans rfl)
      have fg2 := (show ∀ k, ((((w1).setCell ⟨gy, 0, none⟩ (.string cn)).setCell ⟨gy, 1, none⟩ (.int .i64 ck)).alloc (.cells #[.string cn, .string cl, .string cd, .int .i64 ck] 82)).frozen? ⟨gy, k, none⟩ = false from fun k => blk_frozen (blk_alloc g1.out _) k)
      have g3 := Aside0.mk (blk_alloc g2.out (.cells #[.string cn, .string cl, .string cd, .int .i64 ck] 82))
      have HF := Aside0.mk (show ∀ (e : Ending) (w' : World), e = .returned (.agg #[.string cn, .int .i64 ck, .string (cd ++ cl)]) → w' = ((((w1).setCell ⟨gy, 0, none⟩ (.string cn)).setCell ⟨gy, 1, none⟩ (.int .i64 ck)).setCell ⟨gy, 2, none⟩ (.string (cd ++ cl))).alloc (.cells #[.string cn, .string cl, .string cd, .int .i64 ck] 82) → e = .returned (.agg #[.string R.1.f0, .int .i64 R.1.f1, .string R.1.f2]) ∧ UAt w0 w' gr R.2 ∧ StepG w w' gr none from fun e w' h1 h2 => by
        rw [h1, h2, HRx.out]
        dsimp only
        rw [HN.out]
        have hal := below_alloc (Below.refl ((((w1).setCell ⟨gy, 0, none⟩ (.string cn)).setCell ⟨gy, 1, none⟩ (.int .i64 ck)).setCell ⟨gy, 2, none⟩ (.string (cd ++ cl))).heap.size ((((w1).setCell ⟨gy, 0, none⟩ (.string cn)).setCell ⟨gy, 1, none⟩ (.int .i64 ck)).setCell ⟨gy, 2, none⟩ (.string (cd ++ cl)))) (.cells #[.string cn, .string cl, .string cd, .int .i64 ck] 82)
        refine ⟨rfl, HUa.out.keep ?_, (((HSa.out.setNew gy hgy _ _).setNew gy hgy _ _).setNew gy hgy _ _).trans (StepG.of_below hal) (.inl rfl)⟩
        rw [hal.block gr (by rw [sizeG, sizeG, sizeG]; exact HUa.out.lt), Below.heap_setCell _ _ _ _ hry, Below.heap_setCell _ _ _ _ hry, Below.heap_setCell _ _ _ _ hry])
      clear HN HRx g0 g1 HG1 HUa HSa HB1 HBx HX1
      go_wp2_with fail
      (try simp only [Exit.inBlock, Exit.then])
      refine bodyPost_ret (results_single rfl (.cell gy 47 _ (0, 0) _ rfl g3.out Tryz.underlying47 rfl (by kernel_rfl) .nil)) rfl ?_
      exact HF.out _ _ rfl rfl
  | true =>
    have hk5 : x1.kind = 5 := of_decide_eq_true hb5d
    rw [if_pos hk5] at HM
    clear hk5 hb5d
    have HBx := Aside0.mk (below_alloc (Below.refl w1.heap.size w1) (.cells #[.string x1.name, .string x1.link, .string x1.data, .int .i64 x1.kind] 82))
    have HX2 := Aside0.mk (blk_new w1 (.cells #[.string x1.name, .string x1.link, .string x1.data, .int .i64 x1.kind] 82))
    have HG2 := Aside0.mk (blk_below HG1.out HBx.out)
    have HU2 := Aside0.mk (HUa.out.keep (HBx.out.block gr HUa.out.lt))
    have HS2 := Aside0.mk (HSa.out.trans (StepG.of_below HBx.out) (.inl rfl))
    have HB2 := Aside0.mk (below_step HB1.out HBx.out)
    clear HBx HG1 HUa HSa HB1
    go_wp2_with fail
    clear hb5
    generalize w1.alloc (.cells #[.string x1.name, .string x1.link, .string x1.data, .int .i64 x1.kind] 82) = w2 at *
    generalize hgx : w1.heap.size = gx at *
    refine (uentry_calls w0 gr l1 b1 w2 hT hgr HB2.out HU2.out (by omega) hb4.out).mono ?_
    rintro e w3 ⟨rfl, hU3, hS3⟩
    obtain ⟨k1, k2, k3, k4⟩ := entryM_facts l1 b1 hb4.out
    clear k4
    generalize entryM (l1, b1) = B at *
    obtain ⟨x2, l2, b2⟩ := B
    dsimp only at *
    have HX3 := Aside0.mk ((hS3.block gx (blk_lt HX2.out) (Ne.symm hrx) (by simp)).trans HX2.out)
    have HG3 := Aside0.mk ((hS3.block gy (blk_lt HG2.out) hyr (by simp)).trans HG2.out)
    have HU3 := Aside0.mk hU3
    have HB3 := Aside0.mk (belowStepG HB2.out hS3 hgr (fun k hk => by cases hk))
    have HS3 := Aside0.mk (HS2.out.trans hS3 (.inl rfl))
    clear hU3 hS3 HX2 HG2 HU2 HS2 HB2
    have HTF := Aside0.mk (told_facts (x1.data.size + 1) x2 x1.data 1000000 (by omega) (by omega))
    go_wp2_with fail
    refine (told_calls w0 gr l2 b2 x2 x1.data w3 hT hE hgr HB3.out HU3.out (by omega)).mono ?_
    rintro e w4 ⟨rfl, hU4, hS4⟩
    generalize toldM (x1.data.size + 1) x2 x1.data = C at *
    obtain ⟨x3, b3⟩ := C
    dsimp only at *
    have HX4 := Aside0.mk ((hS4.block gx (blk_lt HX3.out) (Ne.symm hrx) (by simp)).trans HX3.out)
    have HY4 := Aside0.mk ((hS4.block gy (blk_lt HG3.out) hyr (by simp)).trans HG3.out)
    have HU4 := Aside0.mk hU4
    have HS4 := Aside0.mk (HS3.out.trans hS4 (.inl rfl))
    clear hU4 hS4 HX3 HG3 HU3 HS3 HB3
    have HRx := Aside0.mk (show R = (nodeX x3, (l2, b2 || b3)) from HM.out)
    clear HM
    have hcs : x3.data.size + x3.link.size ≤ 2000000 := by
      obtain ⟨t1, t2, _⟩ := HTF.out
      rw [t1]
      omega
    clear HTF f1 f2 k1 k2 k3
    unfold entV
    have HXn := Aside0.mk (show (((((w4.setCell ⟨gx, 0, none⟩ (.string x3.name)).setCell ⟨gx, 1, none⟩ (.string x3.link)).setCell ⟨gx, 2, none⟩ (.string x3.data)).setCell ⟨gx, 3, none⟩ (.int .i64 x3.kind))).heap[gx]? = some (.cells (entV x3) 82 (0, 0)) from blk_set (blk_set (blk_set (blk_set HX4.out 0 (.string x3.name)) 1 (.string x3.link)) 2 (.string x3.data)) 3 (.int .i64 x3.kind))
    have s0 := Aside0.mk (blk_set HX4.out 0 (.string x3.name))
    have s1 := Aside0.mk (blk_set s0.out 1 (.string x3.link))
    have s2 := Aside0.mk (blk_set s1.out 2 (.string x3.data))
    have s3 := Aside0.mk (blk_set s2.out 3 (.int .i64 x3.kind))
    have ys0 := (show (w4).cell? ⟨gx, 0, none⟩ = some (.string x1.name) from (blk_cell HX4.out 0).trans rfl)
    have ys1 := (show ((w4).setCell ⟨gx, 0, none⟩ (.string x3.name)).cell? ⟨gx, 1, none⟩ = some (.string x1.link) from (blk_cell s0.out 1).trans rfl)
    have ys2 := (show (((w4).setCell ⟨gx, 0, none⟩ (.string x3.name)).setCell ⟨gx, 1, none⟩ (.string x3.link)).cell? ⟨gx, 2, none⟩ = some (.string x1.data) from (blk_cell s1.out 2).trans rfl)
    have ys3 := (show ((((w4).setCell ⟨gx, 0, none⟩ (.string x3.name)).setCell ⟨gx, 1, none⟩ (.string x3.link)).setCell ⟨gx, 2, none⟩ (.string x3.data)).cell? ⟨gx, 3, none⟩ = some (.int .i64 x1.kind) from (blk_cell s2.out 3).trans rfl)
    have fs0 := fun k => blk_frozen HX4.out k
    have fs1 := fun k => blk_frozen s0.out k
    have fs2 := fun k => blk_frozen s1.out k
    have fs3 := fun k => blk_frozen s2.out k
    clear s0 s1 s2 s3
    obtain ⟨wt, hwt⟩ : ∃ wt, ((((w4.setCell ⟨gx, 0, none⟩ (.string x3.name)).setCell ⟨gx, 1, none⟩ (.string x3.link)).setCell ⟨gx, 2, none⟩ (.string x3.data)).setCell ⟨gx, 3, none⟩ (.int .i64 x3.kind)) = wt := ⟨_, rfl⟩
    have HY := Aside0.mk (show wt.heap[gy]? = some (.cells #[.string ⟨#[]⟩, .int .i64 0, .string ⟨#[]⟩] 47 (0, 0)) from by
      rw [← hwt, Below.heap_setCell _ _ _ _ hyx, Below.heap_setCell _ _ _ _ hyx, Below.heap_setCell _ _ _ _ hyx, Below.heap_setCell _ _ _ _ hyx]
      exact HY4.out)
    have HU := Aside0.mk (show UAt w0 wt gr (l2, b2 || b3) from by
      refine HU4.out.keep ?_
      rw [← hwt, Below.heap_setCell _ _ _ _ hrx, Below.heap_setCell _ _ _ _ hrx, Below.heap_setCell _ _ _ _ hrx, Below.heap_setCell _ _ _ _ hrx])
    have HS := Aside0.mk (show StepG w wt gr none from by
      rw [← hwt]
      exact (((HS4.out.setNew gx hgxw _ _).setNew gx hgxw _ _).setNew gx hgxw _ _).setNew gx hgxw _ _)
    have HX : Aside0 (wt.heap[gx]? = some (.cells (entV x3) 82 (0, 0))) := by rw [← hwt]; exact HXn
    clear HXn HX4 HY4 HU4 HS4 
    obtain ⟨bd, hbd⟩ : ∃ q, (x3.name.toList == dotS.toList) = q := ⟨_, rfl⟩
    have hbd1 : (x3.name.toList == [46]) = bd := by rw [← hbd, show dotS.toList = [46] from by rw [ByteArray.toList_eq]; rfl]
    have HN := Aside0.mk (show nodeX x3 = ⟨if bd = true then ⟨#[]⟩ else x3.name, x3.kind, x3.data ++ x3.link⟩ from by
      unfold nodeX
      congr 1
      by_cases e : x3.name = dotS
      · rw [if_pos e, if_pos]
        rw [← hbd, e]
        simp
      · rw [if_neg e, if_neg]
        rw [← hbd]
        intro h
        apply e
        have := beq_iff_eq.1 h
        rw [ByteArray.toList_eq, ByteArray.toList_eq] at this
        exact toList_extA this)
    clear hbd
    obtain ⟨cn, ck, cl, cd⟩ := x3
    unfold entV at HX
    dsimp only at *
    have c0 := (show (wt).cell? ⟨gx, 0, none⟩ = some (.string cn) from (blk_cell HX.out 0).trans rfl)
    have c1 := (show (wt).cell? ⟨gx, 1, none⟩ = some (.string cl) from (blk_cell HX.out 1).trans rfl)
    have c2 := (show (wt).cell? ⟨gx, 2, none⟩ = some (.string cd) from (blk_cell HX.out 2).trans rfl)
    have c3 := (show (wt).cell? ⟨gx, 3, none⟩ = some (.int .i64 ck) from (blk_cell HX.out 3).trans rfl)
    have hfx := fun k => blk_frozen HX.out k
    cases bd with
    | true =>
      have HX1 := Aside0.mk (blk_set HX.out 0 (.string ⟨#[]⟩))
      have HY1 := Aside0.mk ((Below.heap_setCell wt ⟨gx, 0, none⟩ (.string ⟨#[]⟩) gy hyx).trans HY.out)
      have HU1 := Aside0.mk (HU.out.keep (Below.heap_setCell wt ⟨gx, 0, none⟩ (.string ⟨#[]⟩) gr hrx))
      have HS1 := Aside0.mk (HS.out.setNew gx hgxw 0 (.string ⟨#[]⟩))
      have d0 := (show ((wt.setCell ⟨gx, 0, none⟩ (.string ⟨#[]⟩))).cell? ⟨gx, 0, none⟩ = some (.string ⟨#[]⟩) from (blk_cell HX1.out 0).trans rfl)
      have d1 := (show ((wt.setCell ⟨gx, 0, none⟩ (.string ⟨#[]⟩))).cell? ⟨gx, 1, none⟩ = some (.string cl) from (blk_cell HX1.out 1).trans rfl)
      have d2 := (show ((wt.setCell ⟨gx, 0, none⟩ (.string ⟨#[]⟩))).cell? ⟨gx, 2, none⟩ = some (.string cd) from (blk_cell HX1.out 2).trans rfl)
      have d3 := (show ((wt.setCell ⟨gx, 0, none⟩ (.string ⟨#[]⟩))).cell? ⟨gx, 3, none⟩ = some (.int .i64 ck) from (blk_cell HX1.out 3).trans rfl)
      have g0 := Aside0.mk (blk_set HY1.out 0 (.string ⟨#[]⟩))
      have g1 := Aside0.mk (blk_set g0.out 1 (.int .i64 ck))
      have g2 := Aside0.mk (blk_set g1.out 2 (.string (cd ++ cl)))
      have yg0 := (show ((wt.setCell ⟨gx, 0, none⟩ (.string ⟨#[]⟩))).cell? ⟨gy, 0, none⟩ = some (.string ⟨#[]⟩) from (blk_cell HY1.out 0).trans rfl)
      have yg1 := (show (((wt.setCell ⟨gx, 0, none⟩ (.string ⟨#[]⟩))).setCell ⟨gy, 0, none⟩ (.string ⟨#[]⟩)).cell? ⟨gy, 1, none⟩ = some (.int .i64 0) from (blk_cell g0.out 1).trans rfl)
      have yg2 := (show ((((wt.setCell ⟨gx, 0, none⟩ (.string ⟨#[]⟩))).setCell ⟨gy, 0, none⟩ (.string ⟨#[]⟩)).setCell ⟨gy, 1, none⟩ (.int .i64 ck)).cell? ⟨gy, 2, none⟩ = some (.string ⟨#[]⟩) from (blk_cell g1.out 2).trans rfl)
      have fg0 := fun k => blk_frozen HY1.out k
      have fg1 := fun k => blk_frozen g0.out k
      have fg2 := fun k => blk_frozen g1.out k
      have HF := Aside0.mk (show ∀ (e : Ending) (w' : World), e = .returned (.agg #[.string ⟨#[]⟩, .int .i64 ck, .string (cd ++ cl)]) → w' = ((((wt.setCell ⟨gx, 0, none⟩ (.string ⟨#[]⟩))).setCell ⟨gy, 0, none⟩ (.string ⟨#[]⟩)).setCell ⟨gy, 1, none⟩ (.int .i64 ck)).setCell ⟨gy, 2, none⟩ (.string (cd ++ cl)) → e = .returned (.agg #[.string R.1.f0, .int .i64 R.1.f1, .string R.1.f2]) ∧ UAt w0 w' gr R.2 ∧ StepG w w' gr none from fun e w' h1 h2 => by
        rw [h1, h2, HRx.out]
        dsimp only
        rw [HN.out]
        refine ⟨rfl, UAt.keep (w := (wt.setCell ⟨gx, 0, none⟩ (.string ⟨#[]⟩))) HU1.out ?_, ((HS1.out.setNew gy hgy _ _).setNew gy hgy _ _).setNew gy hgy _ _⟩
        rw [Below.heap_setCell _ _ _ _ hry, Below.heap_setCell _ _ _ _ hry, Below.heap_setCell _ _ _ _ hry])
      clear HN HRx g0 g1 HS1 HU1 HY1 HX HY HU HS
      go_wp2_with fail
      (try simp only [Exit.inBlock, Exit.then])
      refine bodyPost_ret (results_single rfl (.cell gy 47 _ (0, 0) _ rfl g2.out Tryz.underlying47 rfl (by kernel_rfl) .nil)) rfl ?_
      exact HF.out _ _ rfl rfl
    | false =>
      have HY1 := HY
      have HU1 := HU
      have HS1 := HS
      have g0 := Aside0.mk (blk_set HY1.out 0 (.string cn))
      have g1 := Aside0.mk (blk_set g0.out 1 (.int .i64 ck))
      have g2 := Aside0.mk (blk_set g1.out 2 (.string (cd ++ cl)))
      have yg0 := (show (wt).cell? ⟨gy, 0, none⟩ = some (.string ⟨#[]⟩) from (blk_cell HY1.out 0).trans rfl)
      have yg1 := (show ((wt).setCell ⟨gy, 0, none⟩ (.string cn)).cell? ⟨gy, 1, none⟩ = some (.int .i64 0) from (blk_cell g0.out 1).trans rfl)
      have yg2 := (show (((wt).setCell ⟨gy, 0, none⟩ (.string cn)).setCell ⟨gy, 1, none⟩ (.int .i64 ck)).cell? ⟨gy, 2, none⟩ = some (.string ⟨#[]⟩) from (blk_cell g1.out 2).trans rfl)
      have fg0 := fun k => blk_frozen HY1.out k
      have fg1 := fun k => blk_frozen g0.out k
      have fg2 := fun k => blk_frozen g1.out k
      have HF := Aside0.mk (show ∀ (e : Ending) (w' : World), e = .returned (.agg #[.string cn, .int .i64 ck, .string (cd ++ cl)]) → w' = (((wt).setCell ⟨gy, 0, none⟩ (.string cn)).setCell ⟨gy, 1, none⟩ (.int .i64 ck)).setCell ⟨gy, 2, none⟩ (.string (cd ++ cl)) → e = .returned (.agg #[.string R.1.f0, .int .i64 R.1.f1, .string R.1.f2]) ∧ UAt w0 w' gr R.2 ∧ StepG w w' gr none from fun e w' h1 h2 => by
        rw [h1, h2, HRx.out]
        dsimp only
        rw [HN.out]
        refine ⟨rfl, UAt.keep (w := wt) HU1.out ?_, ((HS1.out.setNew gy hgy _ _).setNew gy hgy _ _).setNew gy hgy _ _⟩
        rw [Below.heap_setCell _ _ _ _ hry, Below.heap_setCell _ _ _ _ hry, Below.heap_setCell _ _ _ _ hry])
      clear HN HRx g0 g1 HS1 HU1 HY1 HX HY HU HS
      go_wp2_with fail
      (try simp only [Exit.inBlock, Exit.then])
      refine bodyPost_ret (results_single rfl (.cell gy 47 _ (0, 0) _ rfl g2.out Tryz.underlying47 rfl (by kernel_rfl) .nil)) rfl ?_
      exact HF.out _ _ rfl rfl
end Go.Proofs.YtdijnmcfpbceaaaGreatDoor.X

namespace Go.Proofs.YtdijnmcfpbceaaaGreatDoor.X
open Go.RowKit Go.Proofs.YtdijnmcfpbceaaaGreatDoorW.PrintWords Go.Proofs.YtdijnmcfpbceaaaGreatDoorW.PrintLast Go.Proofs.YtdijnmcfpbceaaaGreatDoorW.PrintMore Go.Proofs.YtdijnmcfpbceaaaGreatDoor.P
set_option linter.unusedVariables false
set_option linter.unusedSimpArgs false
theorem rowAt {w : World} {A : Option Addr} {l : List Int} (h : (Kd.int .u8).C w A l.length l) (hp : 0 < l.length) : ∃ ad, A = some ad ∧ ∀ j, j < l.length → w.cell? (ad.add j) = some (.int .u8 (l.getD j 0)) := by
  obtain ⟨ad, e, hc⟩ := (Kd.reads_of_C (d := (0 : Int)) h).2.2 hp
  exact ⟨ad, e, hc⟩
def TrimR (l : List Int) (n : Nat) : Prop := n ≤ l.length ∧ (∀ j, n ≤ j → j < l.length → l.getD j 0 = 0) ∧ (n = 0 ∨ l.getD (n - 1) 0 ≠ 0)
def rowLen : Value → Nat
  | .slice _ n _ => n
  | _ => 0
set_option maxHeartbeats 4000000 in
set_option maxRecDepth 100000 in
theorem trimRight_calls (A : Option Addr) (c : Nat) (l : List Int) (w : World) (hC : (Kd.int .u8).C w A l.length l) (hc : l.length ≤ c) (hl : l.length ≤ 1000000) :
    Calls Tryz.prog 67 #[.slice A l.length c, .int .u8 0] w fun e w' => ∃ n, e = .returned (.slice A n c) ∧ TrimR l n ∧ w' = w := by
  have X := Aside0.mk hC
  clear hC
  go_enter Tryz.func67, Tryz.ntmps67
  go_wp2_with fail
  go_loopw [0] (fun v0 wr => ∃ n : Nat, v0 = .slice A n c ∧ n ≤ l.length ∧ Aside0 (∀ j, n ≤ j → j < l.length → l.getD j 0 = 0) ∧ Aside0 (wr = w)) (fun v _ => rowLen v)
  case atStart => exact ⟨l.length, rfl, Nat.le_refl _, ⟨fun j h1 h2 => by omega⟩, ⟨rfl⟩⟩
  case round =>
    obtain ⟨n, rfl, hn, HZ, HW⟩ := hrel
    obtain rfl := HW.out
    by_cases h0 : n = 0
    · subst h0
      have HF := Aside0.mk (show TrimR l 0 from ⟨Nat.zero_le _, HZ.out, .inl rfl⟩)
      clear HZ
      go_wp2_with fail
      go_ret
      exact ⟨0, rfl, HF.out, rfl⟩
    · obtain ⟨m, rfl⟩ : ∃ m, n = m + 1 := ⟨n - 1, by omega⟩
      obtain ⟨ad, rfl, hcell⟩ := rowAt X.out (by omega)
      have hcm := hcell m (by omega)
      have HCell := Aside0.mk hcell
      clear hcell
      have hpos : decide ((0 : Int) < ((m + 1 : Nat) : Int)) = true := decide_eq_true (by omega)
      have hm1 : ((m + 1 : Nat) : Int) - 1 = (m : Int) := by omega
      have hmi : 0 ≤ (m : Int) := by omega
      have hml : decide (m < m + 1) = true := decide_eq_true (by omega)
      obtain ⟨bz, hbz⟩ : ∃ q, (l.getD m 0 == 0) = q := ⟨_, rfl⟩
      have hbzd : decide (l.getD m 0 = 0) = bz := by rw [← hbz]; rfl
      have HXm := Aside0.mk (rfl : l.getD m 0 = l.getD m 0)
      generalize hx : l.getD m 0 = x at *
      have HXm := Aside0.mk hx
      clear hx
      cases bz with
      | true =>
        have HZ2 := Aside0.mk (show ∀ j, m ≤ j → j < l.length → l.getD j 0 = 0 from fun j h1 h2 => by
          by_cases e : j = m
          · rw [e, HXm.out]
            exact of_decide_eq_true hbzd
          · exact HZ.out j (by omega) h2)
        clear HZ
        go_wp2_with fail
        exact ⟨⟨m, rfl, by omega, HZ2, ⟨by trivial⟩⟩, by simp only [rowLen]; omega⟩
      | false =>
        have HF := Aside0.mk (show TrimR l (m + 1) from ⟨hn, HZ.out, .inr (by rw [Nat.add_sub_cancel, HXm.out]; exact of_decide_eq_false hbzd)⟩)
        clear HZ
        go_wp2_with fail
        go_ret
        exact ⟨m + 1, rfl, HF.out, rfl⟩
def TrimLP (l : List Int) (w : World) (e : Ending) (w' : World) : Prop := ∃ A1 n c1, e = .returned (.slice A1 n c1) ∧ (n = 0 ↔ ∀ x ∈ l, x = 0) ∧ w' = w
set_option maxHeartbeats 4000000 in
set_option maxRecDepth 100000 in
theorem trimLeft_calls (A : Option Addr) (c : Nat) (l : List Int) (w : World) (hC : (Kd.int .u8).C w A l.length l) (hc : l.length ≤ c) (hl : l.length ≤ 1000000) :
    Calls Tryz.prog 66 #[.slice A l.length c, .int .u8 0] w fun e w' => TrimLP l w e w' := by
  have X := Aside0.mk hC
  clear hC
  go_enter Tryz.func66, Tryz.ntmps66
  go_wp2_with fail
  go_loopw [0] (fun v0 wr => ∃ (i : Nat) (Ai : Option Addr) (ci : Nat), v0 = .slice Ai (l.drop i).length ci ∧ i ≤ l.length ∧ (l.drop i).length ≤ ci ∧ Aside0 ((Kd.int .u8).C w Ai (l.drop i).length (l.drop i)) ∧ Aside0 (∀ x ∈ l.take i, x = 0) ∧ Aside0 (wr = w)) (fun v _ => rowLen v)
  case atStart => exact ⟨0, A, c, rfl, by omega, hc, X, ⟨fun x hx => by cases hx⟩, ⟨rfl⟩⟩
  case round =>
    obtain ⟨i, Ai, ci, rfl, hi, hci, XI, HZ, HW⟩ := hrel
    obtain rfl := HW.out
    have hld : (l.drop i).length = l.length - i := List.length_drop
    by_cases h0 : l.length ≤ i
    · have h00 : (l.drop i).length = 0 := by omega
      have HF := Aside0.mk (show ∀ x ∈ l, x = 0 from fun x hx => HZ.out x (by rw [List.take_of_length_le h0]; exact hx))
      rw [h00]
      clear HZ XI hld
      go_wp2_with fail
      go_ret
      exact ⟨_, _, _, rfl, ⟨fun _ => HF.out, fun _ => rfl⟩, rfl⟩
    · have hlt : i < l.length := by omega
      have hcons : l.drop i = l[i] :: l.drop (i + 1) := List.drop_eq_getElem_cons hlt
      obtain ⟨ad, rfl, hcell⟩ := rowAt XI.out (by omega)
      have hc0 := hcell 0 (by omega)
      have e0 : ad.add 0 = ad := by cases ad; simp [Addr.add]
      obtain ⟨hp, _⟩ := spot_none (by rw [e0] at hc0; exact hc0)
      generalize ad.block = bk at hp
      generalize ad.off = of at hp
      subst hp
      have hg0 : (l.drop i).getD 0 0 = l[i] := by rw [hcons]; rfl
      rw [e0, hg0] at hc0
      have HC0 := Aside0.mk hc0
      clear hcell hg0 e0
      obtain ⟨m, hm⟩ : ∃ m, (l.drop i).length = m + 1 := ⟨(l.drop i).length - 1, by omega⟩
      have hdl : (l.drop (i + 1)).length = m := by rw [List.length_drop]; omega
      have HCd := Aside0.mk (Kd.C_drop (m := 1) (c := ci) XI.out (by omega) hci)
      rw [List.drop_drop, List.length_drop] at HCd
      obtain ⟨bz, hbz⟩ : ∃ q, (l[i] == 0) = q := ⟨_, rfl⟩
      have hbzd : decide (l[i] = 0) = bz := by rw [← hbz]; rfl
      have HXi := Aside0.mk (rfl : l[i] = l[i])
      have HTk := Aside0.mk (List.take_succ_eq_append_getElem hlt)
      have HMem := Aside0.mk (List.getElem_mem hlt)
      generalize l[i] = x at *
      rw [hm]
      have hpos : decide ((0 : Int) < ((m + 1 : Nat) : Int)) = true := decide_eq_true (by omega)
      have hposn : decide (0 < m + 1) = true := decide_eq_true (by omega)
      clear hcons hld
      cases bz with
      | true =>
        have HZ2 := Aside0.mk (show ∀ y ∈ l.take (i + 1), y = 0 from fun y hy => by
          rw [HTk.out, List.mem_append, List.mem_singleton] at hy
          rcases hy with h | h
          · exact HZ.out y h
          · rw [h]
            exact of_decide_eq_true hbzd)
        clear HZ HTk HMem
        by_cases hc1 : ci = 1
        · rw [if_pos hc1] at HCd
          go_wp2_with fail
          refine ⟨⟨i + 1, some ⟨bk, of, none⟩, 0, by rw [hdl], by omega, by rw [hdl]; omega, ?_, HZ2, ⟨by trivial⟩⟩, by simp only [rowLen]; omega⟩
          have h1 := HCd.out
          rw [show i + 1 = i + 1 from rfl, show l.length - (i + 1) = (l.drop (i + 1)).length from by rw [List.length_drop]] at h1
          exact ⟨h1⟩
        · rw [if_neg hc1] at HCd
          go_wp2_with fail
          refine ⟨⟨i + 1, some ⟨bk, of + 1, none⟩, ci - 1, by rw [hdl], by omega, by rw [hdl]; omega, ?_, HZ2, ⟨by trivial⟩⟩, by simp only [rowLen]; omega⟩
          have h1 := HCd.out
          have e1 : (some (⟨bk, of, none⟩ : Addr)).map (fun x => x.add (1 * (Kd.int IntKind.u8).sz)) = some ⟨bk, of + 1, none⟩ := by
            show some ((⟨bk, of, none⟩ : Addr).add (1 * 1)) = _
            simp [Addr.add]
          rw [e1, show l.length - (i + 1) = (l.drop (i + 1)).length from by rw [List.length_drop]] at h1
          exact ⟨h1⟩
      | false =>
        have HF := Aside0.mk (show ((m + 1 : Nat) = 0 ↔ ∀ x ∈ l, x = 0) from ⟨fun h => by omega, fun h => absurd (h x HMem.out) (of_decide_eq_false hbzd)⟩)
        clear HZ HTk HMem
        go_wp2_with fail
        go_ret
        exact ⟨_, _, _, rfl, HF.out, rfl⟩
set_option maxHeartbeats 4000000 in
set_option maxRecDepth 100000 in
theorem trim_calls (A : Option Addr) (c : Nat) (l : List Int) (w : World) (hC : (Kd.int .u8).C w A l.length l) (hc : l.length ≤ c) (hl : l.length ≤ 1000000) (hp : 0 < l.length) :
    Calls Tryz.prog 51 #[.slice A l.length c, .string ⟨#[0]⟩] w fun e w' => ∃ A1 n c1, e = .returned (.slice A1 n c1) ∧ (n = 0 ↔ ∀ x ∈ l, x = 0) ∧ Below w.heap.size w w' := by
  have X := Aside0.mk hC
  clear hC
  have hl0 : ((l.length : Int) == 0) = false := beq_eq_false_iff_ne.2 (by omega)
  have hl0n : (l.length == 0) = false := beq_eq_false_iff_ne.2 (by omega)
  go_enter Tryz.func51, Tryz.ntmps51
  have HTR := Aside0.mk (show ∀ w', Below w.heap.size w w' → Calls Tryz.prog 67 #[.slice A l.length c, .int .u8 0] w' fun e w'' => ∃ n, e = .returned (.slice A n c) ∧ TrimR l n ∧ w'' = w' from fun w' hb => trimRight_calls A c l w' (Kd.C_below X.out hb) hc hl)
  have HTL := Aside0.mk (show ∀ n w', TrimR l n → Below w.heap.size w w' → Calls Tryz.prog 66 #[.slice A n c, .int .u8 0] w' fun e w'' => TrimLP (l.take n) w' e w'' from fun n w' hn hb => by
    have hln : (l.take n).length = n := by rw [List.length_take]; have := hn.1; omega
    have h1 := trimLeft_calls A c (l.take n) w' (Kd.C_take (Kd.C_below X.out hb) hn.1) (by have := hn.1; omega) (by have := hn.1; omega)
    rw [hln] at h1
    exact h1)
  go_wp2_with fail
  refine start_ (n := 8) (S := fun w' => Below w.heap.size w w') (ds := []) (bmG 8 0) (by kernel_rfl) rfl (by kernel_rfl) (below_drew1 (Below.refl w.heap.size w)) (fun hS => ?_)
  generalize w.drew = wd at hS ⊢
  refine pure_ (i := 0) (N := some 21) (v := ?_) (a' := ?_) (bmG 8 1) rfl rfl (by kernel_rfl) (fun _ _ _ h => h) (Or.inl ⟨by rfl, ?_⟩) ?_ ?_
  rotate_left
  · intro w'
    go_simp
    with_reducible rfl
  rotate_left
  · simp only [Act.put, List.setIfInBounds_toArray, List.set_cons_zero, List.set_cons_succ, i64_w, i32_w]
    rfl
  refine pure_ (i := 1) (N := some 22) (v := ?_) (a' := ?_) (bmG 8 3) rfl rfl (by kernel_rfl) (fun _ _ _ h => h) (Or.inl ⟨by rfl, ?_⟩) ?_ ?_
  rotate_left
  · intro w'
    go_simp
    with_reducible rfl
  rotate_left
  · simp only [Act.put, List.setIfInBounds_toArray, List.set_cons_zero, List.set_cons_succ, i64_w, i32_w]
    rfl
  refine pure_ (i := 2) (N := some 23) (v := .int .u8 0) (a' := ?_) (bmG 8 7) rfl rfl (by kernel_rfl) (fun _ _ _ h => h) (Or.inl ⟨by rfl, ?_⟩) ?_ ?_
  · intro w'
    go_simp
    (try rfl)
  rotate_left
  · simp only [Act.put, List.setIfInBounds_toArray, List.set_cons_zero, List.set_cons_succ, i64_w, i32_w]
    rfl
  refine pure_ (i := 4) (N := some 25) (v := ?_) (a' := ?_) (bmG 8 23) rfl rfl (by kernel_rfl) (fun _ _ _ h => h) (Or.inl ⟨by rfl, ?_⟩) ?_ ?_
  rotate_left
  · intro w'
    go_simp
    with_reducible rfl
  rotate_left
  · simp only [Act.put, List.setIfInBounds_toArray, List.set_cons_zero, List.set_cons_succ, i64_w, i32_w]
    rfl
  refine pure_ (i := 5) (N := some 26) (v := .int .u8 0) (a' := ?_) (bmG 8 55) rfl rfl (by kernel_rfl) (fun _ _ _ h => h) (Or.inl ⟨by rfl, ?_⟩) ?_ ?_
  · intro w'
    go_simp
    (try rfl)
  rotate_left
  · simp only [Act.put, List.setIfInBounds_toArray, List.set_cons_zero, List.set_cons_succ, i64_w, i32_w]
    rfl
  refine one_ (i := 3) (N := some 24) (bmG 8 63) rfl rfl (by kernel_rfl) (by decide) (fun Kz hKz => ?_)
  refine goes_ Tryz.func67 (by kernel_rfl) rfl #[.slice A l.length c, .int .u8 0] (by rfl) rfl rfl (by (try simp only [List.map_toArray, List.map_cons, List.map_nil]); first | done | rfl) ?_
  refine (HTR.out _ hS).mono ?_
  rintro e wc ⟨n, rfl, hn, hw⟩
  refine ⟨_, rfl, ?_⟩
  refine hKz.out _ _ (hw ▸ hS) (fun hS => ?_)
  clear hKz Kz
  refine norm_ (a' := ?_) ?_ ?_
  rotate_left
  · show Act.put _ (some 24) _ = _
    simp only [Act.put, List.setIfInBounds_toArray, List.set_cons_zero, List.set_cons_succ, i64_w, i32_w]
    rfl
  refine one_ (i := 6) (N := some 27) (bmG 8 127) rfl rfl (by kernel_rfl) (by decide) (fun Kz hKz => ?_)
  refine goes_ Tryz.func66 (by kernel_rfl) rfl #[.slice A n c, .int .u8 0] (by rfl) rfl rfl (by (try simp only [List.map_toArray, List.map_cons, List.map_nil]); first | done | rfl) ?_
  refine (HTL.out n _ hn hS).mono ?_
  rintro e wc ⟨A1, n1, c1, rfl, hn1, hw1⟩
  refine ⟨_, rfl, ?_⟩
  refine hKz.out _ _ (hw1 ▸ hS) (fun hS => ?_)
  clear hKz Kz
  refine norm_ (a' := ?_) ?_ ?_
  rotate_left
  · show Act.put _ (some 27) _ = _
    simp only [Act.put, List.setIfInBounds_toArray, List.set_cons_zero, List.set_cons_succ, i64_w, i32_w]
    rfl
  refine pure_ (i := 7) (N := some 4) (v := ?_) (a' := ?_) (bmG 8 255) rfl rfl (by kernel_rfl) (fun _ _ _ h => h) (Or.inl ⟨by rfl, ?_⟩) ?_ ?_
  rotate_left
  · intro w'
    go_simp
    with_reducible rfl
  rotate_left
  · simp only [Act.put, List.setIfInBounds_toArray, List.set_cons_zero, List.set_cons_succ, i64_w, i32_w]
    rfl
  refine done_ (by kernel_rfl) ?_
  go_wp2_with fail
  go_ret
  refine ⟨A1, n1, c1, rfl, ?_, hS⟩
  rw [hn1]
  obtain ⟨r1, r2, r3⟩ := hn
  constructor
  · intro h x hx
    obtain ⟨j, hj, rfl⟩ := List.mem_iff_getElem.1 hx
    rcases Nat.lt_or_ge j n with h1 | h1
    · exact h _ (List.mem_iff_getElem.2 ⟨j, by rw [List.length_take]; omega, by rw [List.getElem_take]⟩)
    · have := r2 j h1 hj
      rw [List.getD_eq_getElem?_getD, List.getElem?_eq_getElem hj] at this
      exact this
  · intro h x hx
    exact h x (List.mem_of_mem_take hx)
theorem endedM_iff (l : List Int) (n : Nat) (h : n = 0 ↔ ∀ x ∈ l, x = 0) (hl : l.length = 1024) : endedM l = decide ((n : Int) = 0) := by
  unfold endedM
  rw [decide_eq_true hl, Bool.true_and]
  by_cases hz : n = 0
  · rw [decide_eq_true (by omega), List.all_eq_true]
    intro x hx
    rw [h.1 hz x hx]
    rfl
  · rw [decide_eq_false (by omega), List.all_eq_false]
    refine Classical.byContradiction fun hn => hz (h.2 fun x hx => Classical.byContradiction fun e => hn ⟨x, hx, ?_⟩)
    rw [beq_iff_eq]
    exact e
set_option maxHeartbeats 4000000 in
set_option maxRecDepth 100000 in
theorem ended_calls (w0 : World) (gr : Nat) (l : List Int) (b : Bool) (w : World) (hB : Below w0.heap.size w0 w) (h : UAt w0 w gr (l, b)) (hl : l.length ≤ 1000000) :
    Calls Tryz.prog 38 #[.pointer (some ⟨gr, 0, none⟩)] w fun e w' => e = .returned (.bool (endedM l)) ∧ Below w.heap.size w w' := by
  obtain ⟨A, c, hz, hc, hC⟩ := h
  dsimp only at hz hc hC
  have HB := Aside0.mk hB
  have HZ := Aside0.mk hz
  have HC := Aside0.mk hC
  have z0 : w.cell? ⟨gr, 0, none⟩ = some (.slice A l.length c) := (blk_cell hz 0).trans rfl
  clear hB hz hC
  obtain ⟨b1, hb1⟩ : ∃ q, ((l.length : Int) == 1024) = q := ⟨_, rfl⟩
  have hb1d : decide ((l.length : Int) = 1024) = b1 := by rw [← hb1]; rfl
  go_enter Tryz.func38, Tryz.ntmps38
  cases b1 with
  | false =>
    have HE := Aside0.mk (show endedM l = false from by
      unfold endedM
      rw [decide_eq_false (by have := of_decide_eq_false hb1d; omega), Bool.false_and])
    rw [HE.out]
    go_wp2_with fail
    go_ret
    exact ⟨rfl, Below.refl _ _⟩
  | true =>
    have hl1 : l.length = 1024 := by have := of_decide_eq_true hb1d; omega
    have HT := Aside0.mk (trim_calls A c l w (Kd.C_below HC.out HB.out) hc hl (by omega))
    rw [hl1] at HT
    have HEI := Aside0.mk (fun n h => endedM_iff l n h hl1)
    go_wp2_with fail
    refine HT.out.mono ?_
    rintro e w2 ⟨A1, n, c1, rfl, hn, hb⟩
    have HEn := Aside0.mk (HEI.out n hn)
    have HB2 := Aside0.mk hb
    obtain ⟨bz, hbz⟩ : ∃ q, ((n : Int) == 0) = q := ⟨_, rfl⟩
    have hbzd : decide ((n : Int) = 0) = bz := by rw [← hbz]; rfl
    have hbzn : (n == 0) = bz := by rw [← hbz]; cases n <;> rfl
    rw [hbzd] at HEn
    clear hn hb HT HEI
    cases bz with
    | true =>
      go_wp2_with fail
      go_ret
      exact ⟨by rw [HEn.out]; rfl, HB2.out⟩
    | false =>
      go_wp2_with fail
      go_ret
      exact ⟨by rw [HEn.out]; rfl, HB2.out⟩
end Go.Proofs.YtdijnmcfpbceaaaGreatDoor.X

namespace Go.Proofs.YtdijnmcfpbceaaaGreatDoor.X
open Go.RowKit Go.Proofs.YtdijnmcfpbceaaaGreatDoorW.PrintWords Go.Proofs.YtdijnmcfpbceaaaGreatDoorW.PrintLast Go.Proofs.YtdijnmcfpbceaaaGreatDoorW.PrintMore Go.Proofs.YtdijnmcfpbceaaaGreatDoor.P
set_option linter.unusedVariables false
set_option linter.unusedSimpArgs false
def nodeCs (n : S47) : List Value := [.string n.f0, .int .i64 n.f1, .string n.f2]
def rowCs (t : List S47) : List Value := t.flatMap nodeCs
theorem rowCs_reps (w : World) (t : List S47) : Reps (fun p c => k47.K w p c) 3 t (rowCs t) := by
  induction t with
  | nil => exact Reps.none _ _
  | cons n t ih => exact Reps.front (k47_mk w n) rfl ih rfl
theorem row_reads {w : World} {base e : Nat} {v : Value} {t : List S47} (h : w.ownsRow base e 3 v t.length (rowCs t)) : ∃ A c, v = .slice A t.length c ∧ t.length ≤ c ∧ k47.C w A t.length t := by
  obtain ⟨A, c, rfl, hr⟩ := own_reads_row h (rowCs_reps w t) rfl
  exact ⟨A, c, rfl, own_cap h, hr⟩
theorem nodeM_facts (l : List Int) (b : Bool) (hb : Bytes l) : (nodeM (l, b)).2.1.length ≤ l.length ∧ Bytes (nodeM (l, b)).2.1 := by
  obtain ⟨_, _, a, c⟩ := entryM_facts l b hb
  unfold nodeM
  dsimp only
  split
  · obtain ⟨_, _, d, e⟩ := entryM_facts (entryM (l, b)).2.1 (entryM (l, b)).2.2 c
    exact ⟨Nat.le_trans d a, e⟩
  · exact ⟨a, c⟩
theorem lib_bytes_back {a : List Int} (h : Bytes a) : (Lib.bytesOf a).map (fun c => (c.toNat : Int)) = a := by
  unfold Lib.bytesOf
  rw [List.map_map]
  conv => rhs; rw [← List.map_id a]
  refine List.map_congr_left fun x hx => ?_
  have hb := h x hx
  show ((UInt8.ofNat x.toNat).toNat : Int) = x
  rw [UInt8.toNat_ofNat_of_lt' (by show _ < 256; omega)]
  omega
theorem lib_bytes_inj {a b : List Int} (ha : Bytes a) (hb : Bytes b) (h : Lib.bytesOf a = Lib.bytesOf b) : a = b := by
  rw [← lib_bytes_back ha, ← lib_bytes_back hb, h]
theorem untR_step (bs : List Int) (t : List S47) (bd : Bool) (hby : Bytes bs) (h : readM 402 (bs, false) [] = (t, bd)) : untR bs = if bd = false ∧ ((tarR t).2 != 0) = false ∧ (Lib.bytesOf (tarR t).1 == Lib.bytesOf bs) = true then (t, 0) else ([], 5) := by
  unfold untR
  rw [h]
  dsimp only
  unfold tarR
  by_cases ht : treeB t = true
  · rw [if_pos ht]
    have e : (Lib.bytesOf (tarB t) == Lib.bytesOf bs) = true ↔ tarB t = bs := ⟨fun h => lib_bytes_inj (tarB_Bytes t) hby (beq_iff_eq.1 h), fun h => by rw [h]; simp⟩
    by_cases hb : bd = false ∧ tarB t = bs
    · rw [if_pos ⟨hb.1, ht, hb.2⟩, if_pos ⟨hb.1, rfl, e.2 hb.2⟩]
    · rw [if_neg (fun x => hb ⟨x.1, x.2.2⟩), if_neg (fun x => hb ⟨x.1, e.1 x.2.2⟩)]
  · rw [if_neg (fun x => ht x.2.1), if_neg (fun x => by
      have h2 := x.2.1
      rw [if_neg ht] at h2
      cases h2)]
set_option maxHeartbeats 4000000 in
set_option maxRecDepth 100000 in
theorem uread_calls (A : Option Addr) (c : Nat) (bs : List Int) (w : World) (hT : Aside0 (Tabs w)) (hE : Aside0 (ErrV w)) (hC : (Kd.int .u8).C w A bs.length bs) (hc : bs.length ≤ c) (hl : bs.length ≤ 1000000) (hby : Bytes bs) :
    Calls Tryz.prog 20 #[.slice A bs.length c] w fun e w' => ∃ v, e = .returned (.tuple #[v, .int .i64 (untR bs).2]) ∧ w'.ownsRow w.heap.size 47 3 v (untR bs).1.length (rowCs (untR bs).1) ∧ Below w.heap.size w w' := by
  obtain ⟨R, hR⟩ : ∃ R, untR bs = R := ⟨_, rfl⟩
  rw [hR]
  have HR := Aside0.mk hR
  clear hR
  have X := Aside0.mk hC
  clear hC
  have HB0 := Aside0.mk (below_alloc (Below.refl w.heap.size w) (.cells #[.slice A bs.length c, .bool false] 68))
  have HU0 := Aside0.mk (show UAt w (w.alloc (.cells #[.slice A bs.length c, .bool false] 68)) w.heap.size (bs, false) from ⟨A, c, blk_new w _, hc, X.out⟩)
  go_enter Tryz.func20, Tryz.ntmps20
  have hgr : w.heap.size ≤ w.heap.size := Nat.le_refl _
  go_wp2_with fail
  generalize w.alloc (.cells #[.slice A bs.length c, .bool false] 68) = W0 at *
  go_loopw [5] (fun v5 wr => ∃ (v : Value) (t : List S47) (l : List Int) (bd : Bool) (f : Nat), v5 = v ∧ f + 1 + t.length = 402 ∧ l.length ≤ 1000000 ∧ Aside0 (Bytes l) ∧ Aside0 (UAt w wr w.heap.size (l, bd)) ∧ Aside0 (wr.ownsRow w.heap.size 47 3 v t.length (rowCs t)) ∧ Aside0 (Below w.heap.size w wr) ∧ Aside0 (readM 402 (bs, false) [] = readM (f + 1) (l, bd) t)) (fun v _ => 402 - rowLen v)
  case atStart => exact ⟨_, [], bs, false, 401, rfl, rfl, hl, ⟨hby⟩, HU0, ⟨⟨rfl, .inl ⟨rfl, rfl⟩⟩⟩, HB0, ⟨rfl⟩⟩
  case round =>
    clear HB0 HU0
    obtain ⟨v, t, l, bd, f, rfl, hf, hll, HY, HU, HO, HB, HM⟩ := hrel
    obtain ⟨z1, hfz⟩ := HU.out.bad
    dsimp only at z1
    obtain ⟨A', c', rfl⟩ := own_slice HO.out
    cases bd with
    | true =>
      have HRM := Aside0.mk (show readM 402 (bs, false) [] = (t, true) from by rw [HM.out]; unfold readM; rw [if_pos (.inl rfl)])
      clear HM
      go_wp2_with fail
      obtain ⟨A2, c2, e2, hc', hC'⟩ := row_reads HO.out
      cases e2
      refine (tarLay_calls A' c' t wr ⟨Tabs.below hT.out HB.out⟩ hC' hc' (by omega)).mono ?_
      rintro e w5 ⟨v5, rfl, ho5, hb5⟩
      obtain ⟨A5, c5, rfl, hR5⟩ := own_reads ho5
      have HB5 := Aside0.mk (below_step HB.out hb5)
      have HU5 := Aside0.mk (HU.out.keep (hb5.block _ HU.out.lt))
      have HO5 := Aside0.mk (own_move HO.out (fun k hk => hb5.block k (own_lt HO.out k hk)))
      have hk1 := show (convert 26 9 (.slice A5 (tarR t).1.length c5)).run Tryz.prog w5 = .ok (.string (strOfNums (tarR t).1)) w5 from Kd.C_string Tryz.underlying26 Tryz.underlying5 Tryz.underlying9 (Kd.C_of_reads (d := (0 : Int)) (h1 := fun _ => rfl) hR5)
      have hk2 := show (convert 26 9 (.slice A bs.length c)).run Tryz.prog w5 = .ok (.string (strOfNums bs)) w5 from Kd.C_string Tryz.underlying26 Tryz.underlying5 Tryz.underlying9 (Kd.C_below X.out HB5.out)
      have HEq := Aside0.mk (Tryz.bytes_Equal (.slice A5 (tarR t).1.length c5) (.slice A bs.length c) (tarR t).1 bs w5 hk1 hk2)
      obtain ⟨z1, hfz⟩ := HU5.out.bad
      dsimp only at z1
      have HF := Aside0.mk (untR_step bs t true hby HRM.out)
      rw [HR.out] at HF
      obtain ⟨be, hbe⟩ : ∃ q, ((tarR t).2 != 0) = q := ⟨_, rfl⟩
      obtain ⟨bq, hbq⟩ : ∃ q, (Lib.bytesOf (tarR t).1 == Lib.bytesOf bs) = q := ⟨_, rfl⟩
      rw [hbe, hbq] at HF
      rw [hbq] at HEq
      have hbe2 : ((tarR t).2 == 0) = !be := by rw [← hbe]; simp [bne]
      generalize (tarR t).2 = code at *
      generalize (tarR t).1.length = tl at *
      clear ho5 hb5 hR5 hk1 hk2 hbq HU HO HB HRM HU5
      have HRv := Aside0.mk (show R = ([], 5) from by rw [HF.out, if_neg (by simp)])
      clear HF
      go_wp2_with fail
      go_ret2
      rw [HRv.out]
      exact ⟨_, rfl, ⟨rfl, .inl ⟨rfl, rfl⟩⟩, HB5.out⟩
    | false =>
      obtain ⟨be, hbe⟩ : ∃ q, endedM l = q := ⟨_, rfl⟩
      have HEn := Aside0.mk hbe
      have HEc := Aside0.mk (ended_calls w w.heap.size l false wr HB.out HU.out hll)
      rw [hbe] at HEc
      clear hbe
      cases be with
      | true =>
        have HW2 := HM
        go_wp2_with fail
        refine HEc.out.mono ?_
        rintro e w2 ⟨rfl, hb2⟩
        have HB := Aside0.mk (below_step HB.out hb2)
        have HO := Aside0.mk (own_move HO.out (fun k hk => hb2.block k (own_lt HO.out k hk)))
        have HU := Aside0.mk (HU.out.keep (hb2.block _ HU.out.lt))
        clear hb2 HW2 z1 hfz HEc
        have HRM := Aside0.mk (show readM 402 (bs, false) [] = (t, false) from by rw [HM.out]; unfold readM; rw [if_pos (.inr (.inl HEn.out))])
        clear HM
        go_wp2_with fail
        obtain ⟨A2, c2, e2, hc', hC'⟩ := row_reads HO.out
        cases e2
        refine (tarLay_calls A' c' t w2 ⟨Tabs.below hT.out HB.out⟩ hC' hc' (by omega)).mono ?_
        rintro e w5 ⟨v5, rfl, ho5, hb5⟩
        obtain ⟨A5, c5, rfl, hR5⟩ := own_reads ho5
        have HB5 := Aside0.mk (below_step HB.out hb5)
        have HU5 := Aside0.mk (HU.out.keep (hb5.block _ HU.out.lt))
        have HO5 := Aside0.mk (own_move HO.out (fun k hk => hb5.block k (own_lt HO.out k hk)))
        have hk1 := show (convert 26 9 (.slice A5 (tarR t).1.length c5)).run Tryz.prog w5 = .ok (.string (strOfNums (tarR t).1)) w5 from Kd.C_string Tryz.underlying26 Tryz.underlying5 Tryz.underlying9 (Kd.C_of_reads (d := (0 : Int)) (h1 := fun _ => rfl) hR5)
        have hk2 := show (convert 26 9 (.slice A bs.length c)).run Tryz.prog w5 = .ok (.string (strOfNums bs)) w5 from Kd.C_string Tryz.underlying26 Tryz.underlying5 Tryz.underlying9 (Kd.C_below X.out HB5.out)
        have HEq := Aside0.mk (Tryz.bytes_Equal (.slice A5 (tarR t).1.length c5) (.slice A bs.length c) (tarR t).1 bs w5 hk1 hk2)
        obtain ⟨z1, hfz⟩ := HU5.out.bad
        dsimp only at z1
        have HF := Aside0.mk (untR_step bs t false hby HRM.out)
        rw [HR.out] at HF
        obtain ⟨be, hbe⟩ : ∃ q, ((tarR t).2 != 0) = q := ⟨_, rfl⟩
        obtain ⟨bq, hbq⟩ : ∃ q, (Lib.bytesOf (tarR t).1 == Lib.bytesOf bs) = q := ⟨_, rfl⟩
        rw [hbe, hbq] at HF
        rw [hbq] at HEq
        have hbe2 : ((tarR t).2 == 0) = !be := by rw [← hbe]; simp [bne]
        generalize (tarR t).2 = code at *
        generalize (tarR t).1.length = tl at *
        clear ho5 hb5 hR5 hk1 hk2 hbq HU HO HB HRM HU5
        cases be with
        | true =>
          have HRv := Aside0.mk (show R = ([], 5) from by rw [HF.out, if_neg (by simp)])
          clear HF
          go_wp2_with fail
          go_ret2
          rw [HRv.out]
          exact ⟨_, rfl, ⟨rfl, .inl ⟨rfl, rfl⟩⟩, HB5.out⟩
        | false =>
          cases bq with
          | false =>
            have HRv := Aside0.mk (show R = ([], 5) from by rw [HF.out, if_neg (by simp)])
            clear HF
            go_wp2_with fail
            refine HEq.out.mono ?_
            rintro e w6 ⟨rfl, rfl⟩
            go_wp2_with fail
            go_ret2
            rw [HRv.out]
            exact ⟨_, rfl, ⟨rfl, .inl ⟨rfl, rfl⟩⟩, HB5.out⟩
          | true =>
            have HRv := Aside0.mk (show R = (t, 0) from by rw [HF.out, if_pos ⟨rfl, rfl, rfl⟩])
            clear HF
            go_wp2_with fail
            refine HEq.out.mono ?_
            rintro e w6 ⟨rfl, rfl⟩
            go_wp2_with fail
            go_ret2
            rw [HRv.out]
            exact ⟨_, rfl, HO5.out, HB5.out⟩
      | false =>
        by_cases hlen : t.length ≤ 400
        · have hld : decide ((t.length : Int) ≤ 400) = true := decide_eq_true (by omega)
          have HMs := Aside0.mk (show readM 402 (bs, false) [] = readM f (nodeM (l, false)).2 (t ++ [(nodeM (l, false)).1]) from by
            rw [HM.out]
            conv => lhs; unfold readM
            rw [if_neg (by rw [HEn.out]; simp; omega)])
          clear HM
          go_wp2_with fail
          refine HEc.out.mono ?_
          rintro e w2 ⟨rfl, hb2⟩
          have HB2 := Aside0.mk (below_step HB.out hb2)
          have HO2 := Aside0.mk (own_move HO.out (fun k hk => hb2.block k (own_lt HO.out k hk)))
          have HU2 := Aside0.mk (HU.out.keep (hb2.block _ HU.out.lt))
          clear hb2 z1 hfz HEc HB HO HU
          go_wp2_with fail
          refine (unode_calls w w.heap.size l false w2 hT hE hgr HB2.out HU2.out hll HY.out).mono ?_
          rintro e w3 ⟨rfl, hU3, hS3⟩
          have HNf := Aside0.mk (nodeM_facts l false HY.out)
          generalize nodeM (l, false) = N at *
          obtain ⟨x, l2, b2⟩ := N
          dsimp only at *
          have HU3 := Aside0.mk hU3
          have HB3 := Aside0.mk (belowStepG HB2.out hS3 hgr (fun k hk => by cases hk))
          have hgo : ∀ k, (Value.slice A' t.length c').ownBlock = some k → k ≠ w.heap.size := fun k hk e => by
            obtain ⟨Ar, cr, hr1, _, _⟩ := HU2.out
            exact own_ne HO2.out hr1 (by decide) (by rw [hk, e])
          have HO3 := Aside0.mk (own_move HO2.out (fun k hk => hS3.block k (own_lt HO2.out k hk) (hgo k hk) (by simp)))
          clear hU3 hS3 HU2 HB2
          have hf1 : t.length + 1 ≤ 402 := by omega
          go_wp2_with (at_builtin; refine print_append_cells (w0 := w) w.heap.size rfl (.tmp 26) (.tmp 29) 22 47 (.agg #[.string ⟨#[]⟩, .int .i64 0, .string ⟨#[]⟩]) 3 40 rfl Tryz.underlying22 (by kernel_rfl) rfl (by decide) (by decide) (.slice A' t.length c') t.length (rowCs t) (nodeCs x) rfl rfl rfl (by intro u hu; simp [nodeCs] at hu; rcases hu with rfl | rfl | rfl <;> rfl) HO3.out HB3.out HB3.out.size (by omega) ?_; intro v4 w4 ho4 hb4 hg4 _; have HO4 := Aside0.mk ho4; have HB4 := Aside0.mk hb4; have HG4 := Aside0.mk hg4; clear ho4 hb4 hg4)
          obtain ⟨A4, c4, rfl⟩ := own_slice HO4.out
          have hUk : UAt w w4 w.heap.size (l2, b2) := by
            refine HU3.out.keep ?_
            obtain ⟨Ar, cr, hr1, _, _⟩ := HU3.out
            exact HG4.out.block _ (blk_lt hr1) (own_ne HO3.out hr1 (by decide))
          have hrw : rowCs (t ++ [x]) = rowCs t ++ nodeCs x := by
            unfold rowCs
            rw [List.flatMap_append]
            simp
          have hrl : (t ++ [x]).length = t.length + 1 := by simp
          have hN := HNf.out
          refine ⟨⟨.slice A4 (t.length + 1) c4, t ++ [x], l2, b2, f - 1, rfl, by rw [hrl]; omega, by omega, ⟨hN.2⟩, ⟨hUk⟩, ⟨by rw [hrl, hrw]; exact HO4.out⟩, HB4, ⟨by rw [show f - 1 + 1 = f from by omega]; exact HMs.out⟩⟩, by simp only [rowLen]; omega⟩
        · have hld : decide ((t.length : Int) ≤ 400) = false := decide_eq_false (by omega)
          go_wp2_with fail
          refine HEc.out.mono ?_
          rintro e w2 ⟨rfl, hb2⟩
          have HB := Aside0.mk (below_step HB.out hb2)
          have HO := Aside0.mk (own_move HO.out (fun k hk => hb2.block k (own_lt HO.out k hk)))
          have HU := Aside0.mk (HU.out.keep (hb2.block _ HU.out.lt))
          clear hb2 z1 hfz HEc
          have HRM := Aside0.mk (show readM 402 (bs, false) [] = (t, false) from by rw [HM.out]; unfold readM; rw [if_pos (.inr (.inr (by omega)))])
          clear HM
          go_wp2_with fail
          obtain ⟨A2, c2, e2, hc', hC'⟩ := row_reads HO.out
          cases e2
          refine (tarLay_calls A' c' t w2 ⟨Tabs.below hT.out HB.out⟩ hC' hc' (by omega)).mono ?_
          rintro e w5 ⟨v5, rfl, ho5, hb5⟩
          obtain ⟨A5, c5, rfl, hR5⟩ := own_reads ho5
          have HB5 := Aside0.mk (below_step HB.out hb5)
          have HU5 := Aside0.mk (HU.out.keep (hb5.block _ HU.out.lt))
          have HO5 := Aside0.mk (own_move HO.out (fun k hk => hb5.block k (own_lt HO.out k hk)))
          have hk1 := show (convert 26 9 (.slice A5 (tarR t).1.length c5)).run Tryz.prog w5 = .ok (.string (strOfNums (tarR t).1)) w5 from Kd.C_string Tryz.underlying26 Tryz.underlying5 Tryz.underlying9 (Kd.C_of_reads (d := (0 : Int)) (h1 := fun _ => rfl) hR5)
          have hk2 := show (convert 26 9 (.slice A bs.length c)).run Tryz.prog w5 = .ok (.string (strOfNums bs)) w5 from Kd.C_string Tryz.underlying26 Tryz.underlying5 Tryz.underlying9 (Kd.C_below X.out HB5.out)
          have HEq := Aside0.mk (Tryz.bytes_Equal (.slice A5 (tarR t).1.length c5) (.slice A bs.length c) (tarR t).1 bs w5 hk1 hk2)
          obtain ⟨z1, hfz⟩ := HU5.out.bad
          dsimp only at z1
          have HF := Aside0.mk (untR_step bs t false hby HRM.out)
          rw [HR.out] at HF
          obtain ⟨be, hbe⟩ : ∃ q, ((tarR t).2 != 0) = q := ⟨_, rfl⟩
          obtain ⟨bq, hbq⟩ : ∃ q, (Lib.bytesOf (tarR t).1 == Lib.bytesOf bs) = q := ⟨_, rfl⟩
          rw [hbe, hbq] at HF
          rw [hbq] at HEq
          have hbe2 : ((tarR t).2 == 0) = !be := by rw [← hbe]; simp [bne]
          generalize (tarR t).2 = code at *
          generalize (tarR t).1.length = tl at *
          clear ho5 hb5 hR5 hk1 hk2 hbq HU HO HB HRM HU5
          cases be with
          | true =>
            have HRv := Aside0.mk (show R = ([], 5) from by rw [HF.out, if_neg (by simp)])
            clear HF
            go_wp2_with fail
            go_ret2
            rw [HRv.out]
            exact ⟨_, rfl, ⟨rfl, .inl ⟨rfl, rfl⟩⟩, HB5.out⟩
          | false =>
            cases bq with
            | false =>
              have HRv := Aside0.mk (show R = ([], 5) from by rw [HF.out, if_neg (by simp)])
              clear HF
              go_wp2_with fail
              refine HEq.out.mono ?_
              rintro e w6 ⟨rfl, rfl⟩
              go_wp2_with fail
              go_ret2
              rw [HRv.out]
              exact ⟨_, rfl, ⟨rfl, .inl ⟨rfl, rfl⟩⟩, HB5.out⟩
            | true =>
              have HRv := Aside0.mk (show R = (t, 0) from by rw [HF.out, if_pos ⟨rfl, rfl, rfl⟩])
              clear HF
              go_wp2_with fail
              refine HEq.out.mono ?_
              rintro e w6 ⟨rfl, rfl⟩
              go_wp2_with fail
              go_ret2
              rw [HRv.out]
              exact ⟨_, rfl, HO5.out, HB5.out⟩
end Go.Proofs.YtdijnmcfpbceaaaGreatDoor.X

namespace Go.Proofs.YtdijnmcfpbceaaaGreatDoor.P
open Go.Proofs.YtdijnmcfpbceaaaGreatDoor.X
open Go.RowKit Go.Proofs.YtdijnmcfpbceaaaGreatDoorW.PrintWords Go.Proofs.YtdijnmcfpbceaaaGreatDoorW.PrintLast Go.Proofs.YtdijnmcfpbceaaaGreatDoorW.PrintMore
attribute [local go_sem] min2_int min_two
set_option linter.unusedVariables false
set_option linter.unusedSimpArgs false
theorem eqA47 (d : Nat) (w : World) (x0 y0 : ByteArray) (x1 y1 : Int) (x2 y2 : ByteArray) :
    (Op.equalIn (d + 2) 47 (.agg #[.string x0, .int .i64 x1, .string x2]) (.agg #[.string y0, .int .i64 y1, .string y2])).run Tryz.prog w = .ok (x0.toList == y0.toList && (x1 == y1 && (x2.toList == y2.toList))) w := by
  refine eqA_of Tryz.underlying47 (by kernel_rfl) ?_
  refine eqf_cons (by rfl) (by go_simp; rfl) (by go_simp; rfl) (by go_simp) ?_
  refine eqf_cons (by rfl) (by go_simp; rfl) (by go_simp; rfl) (by go_simp) ?_
  exact eqf_last (by rfl) (by go_simp; rfl) (by go_simp; rfl) (by go_simp)
end Go.Proofs.YtdijnmcfpbceaaaGreatDoor.P

namespace Go.Proofs.YtdijnmcfpbceaaaGreatDoor.P
open Go.Proofs.YtdijnmcfpbceaaaGreatDoor.X
open Go.RowKit Go.Proofs.YtdijnmcfpbceaaaGreatDoorW.PrintWords Go.Proofs.YtdijnmcfpbceaaaGreatDoorW.PrintLast Go.Proofs.YtdijnmcfpbceaaaGreatDoorW.PrintMore
attribute [local go_sem] min2_int min_two
set_option linter.unusedVariables false
set_option linter.unusedSimpArgs false
attribute [local go_sem high] eqA47
def hogsheadlaw0_SameNodes.l0 : Nat → List (S47) → List (S47) → Int → Option (Bool)
 | 0, _, _, _ => none
 | k + 1, x0, x1, x5 => if x5 < (x0.length : Int) then (if 0 ≤ x5 then (if x5 < (x1.length : Int) then (if (!((((rd_T47 x0 x5).f0).toList) == (((rd_T47 x1 x5).f0).toList)) || (!(((rd_T47 x0 x5).f1) == ((rd_T47 x1 x5).f1)) || (!((((rd_T47 x0 x5).f2).toList) == (((rd_T47 x1 x5).f2).toList))))) = true then (some false) else (hogsheadlaw0_SameNodes.l0 k x0 x1 (wrap64 (x5 + 1)))) else (none)) else (none)) else (some true)
def hogsheadlaw0_SameNodes.f (k : Nat) (l0 : List (S47)) (l1 : List (S47)) : Option (Bool) := if (l0.length : Int) = (l1.length : Int) then (hogsheadlaw0_SameNodes.l0 k l0 l1 0) else (some false)
set_option maxHeartbeats 8000000 in
set_option maxRecDepth 100000 in
theorem hogsheadlaw0_SameNodes.calls (k : Nat) (A0 : Option Addr) (c0 : Nat) (l0 : List (S47)) (A1 : Option Addr) (c1 : Nat) (l1 : List (S47)) (r : Bool) (w : World) (hr0 : Kd.C k47 w A0 l0.length l0) (hc0 : l0.length ≤ c0) (hr1 : Kd.C k47 w A1 l1.length l1) (hc1 : l1.length ≤ c1) (h : hogsheadlaw0_SameNodes.f k l0 l1 = some r) :
  Calls Tryz.prog 23 #[.slice A0 l0.length c0, .slice A1 l1.length c1] w fun e w' => e = .returned (.bool r) ∧ Drawn0 w w' := by
 have hu47 := Tryz.underlying47
 have HR0 := Aside0.mk hr0
 have HC0 := Aside0.mk hc0
 clear hr0 hc0
 have HR1 := Aside0.mk hr1
 have HC1 := Aside0.mk hc1
 clear hr1 hc1
 have H : (if (l0.length : Int) = (l1.length : Int) then (hogsheadlaw0_SameNodes.l0 k l0 l1 0) else (some false)) = some r := h
 clear h
 by_cases c3 : (l0.length : Int) = (l1.length : Int)
 ·rw [if_pos c3] at H
  have c3b0 : ((l0.length : Int) == (l1.length : Int)) = true := beq_iff_eq.mpr c3
  have c3b1 : ((l0.length : Int) != (l1.length : Int)) = false := bne_eq_false_iff_eq.mpr c3
  have c3b2 : (l0.length == l1.length) = true := by first | simpa using c3 | (simp at c3 ⊢; omega)
  clear c3
  have H' := Aside0.mk H
  clear H
  go_enter Tryz.func23, Tryz.ntmps23
  go_wp2
  repeat (go_quiet (fail); try go_wp2)
  go_loopg [5] k (fun kq v5 w' => ∃ (x5_1 : Int), v5 = .int .i64 x5_1 ∧ Aside0 (hogsheadlaw0_SameNodes.l0 kq l0 l1 x5_1 = some r) ∧ Aside0 (kq ≤ k) ∧ Drawn0 w w')
  case atStart => exact ⟨(0), (by first | rfl | (simp; done) | (simp [*]; done) | exact congrArg Value.bool (nil_ne _) | exact congrArg Value.bool (nil_eq _) | exact congrArg Value.bool (nil_ne' _)), H', ⟨Nat.le_refl _⟩, by repeat (first | exact Drawn0.refl _ | apply Drawn0.step)⟩
  case round =>
   clear H'
   try clear c1
   try clear c2
   try clear p2
   try clear c3
   try clear c3b0
   try clear c3b1
   try clear c3b2
   obtain ⟨x5_1, rfl, HA, HK1, ⟨m1, rfl⟩⟩ := hrel
   cases gk with
   | zero => exact absurd HA.out (by simp [hogsheadlaw0_SameNodes.l0])
   | succ k1 =>
    have H := HA.out
    clear HA
    simp only [hogsheadlaw0_SameNodes.l0] at H
    by_cases c4 : x5_1 < (l0.length : Int)
    ·rw [if_pos c4] at H
     have c4b0 : decide (x5_1 < (l0.length : Int)) = true := decide_eq_true c4
     clear c4
     by_cases c5 : 0 ≤ x5_1
     ·rw [if_pos c5] at H
      have c5b0 : decide (0 ≤ x5_1) = true := decide_eq_true c5
      clear c5
      by_cases c6 : x5_1 < (l1.length : Int)
      ·rw [if_pos c6] at H
       have c6b0 : decide (x5_1 < (l1.length : Int)) = true := decide_eq_true c6
       clear c6
       by_cases c7 : (!((((rd_T47 l0 x5_1).f0).toList) == (((rd_T47 l1 x5_1).f0).toList)) || (!(((rd_T47 l0 x5_1).f1) == ((rd_T47 l1 x5_1).f1)) || (!((((rd_T47 l0 x5_1).f2).toList) == (((rd_T47 l1 x5_1).f2).toList))))) = true
       ·rw [if_pos c7] at H
        have c7b0 : (!((((rd_T47 l0 x5_1).f0).toList) == (((rd_T47 l1 x5_1).f0).toList)) || (!(((rd_T47 l0 x5_1).f1) == ((rd_T47 l1 x5_1).f1)) || (!((((rd_T47 l0 x5_1).f2).toList) == (((rd_T47 l1 x5_1).f2).toList))))) = true := c7
        clear c7
        obtain rfl := Option.some.inj H
        have p171 : 0 ≤ (x5_1 : Int) := of_decide_eq_true (by first | (with_reducible assumption) | assumption)
        have q171 : x5_1 < (l0.length : Int) := of_decide_eq_true (by first | (with_reducible assumption) | assumption)
        obtain ⟨ad171, e171, hx171_0, hx171_1, hx171_2⟩ := at_T47 HR0.out x5_1 p171 q171
        cases e171
        replace p171 := eq_true p171
        replace q171 := eq_true q171
        have p172 : 0 ≤ (x5_1 : Int) := of_decide_eq_true (by first | (with_reducible assumption) | assumption)
        have q172 : x5_1 < (l1.length : Int) := of_decide_eq_true (by first | (with_reducible assumption) | assumption)
        obtain ⟨ad172, e172, hx172_0, hx172_1, hx172_2⟩ := at_T47 HR1.out x5_1 p172 q172
        cases e172
        replace p172 := eq_true p172
        replace q172 := eq_true q172
        go_wp2
        repeat (go_quiet (fail); try go_wp2)
        go_ret
        exact ⟨by first | rfl | (simp; done) | (simp [*]; done), by repeat (first | exact Drawn0.refl _ | apply Drawn0.step)⟩
       ·rw [if_neg c7] at H
        have c7b0 : (!((((rd_T47 l0 x5_1).f0).toList) == (((rd_T47 l1 x5_1).f0).toList)) || (!(((rd_T47 l0 x5_1).f1) == ((rd_T47 l1 x5_1).f1)) || (!((((rd_T47 l0 x5_1).f2).toList) == (((rd_T47 l1 x5_1).f2).toList))))) = false := by simpa using c7
        clear c7
        have H' := Aside0.mk H
        clear H
        have p171 : 0 ≤ (x5_1 : Int) := of_decide_eq_true (by first | (with_reducible assumption) | assumption)
        have q171 : x5_1 < (l0.length : Int) := of_decide_eq_true (by first | (with_reducible assumption) | assumption)
        obtain ⟨ad171, e171, hx171_0, hx171_1, hx171_2⟩ := at_T47 HR0.out x5_1 p171 q171
        cases e171
        replace p171 := eq_true p171
        replace q171 := eq_true q171
        have p172 : 0 ≤ (x5_1 : Int) := of_decide_eq_true (by first | (with_reducible assumption) | assumption)
        have q172 : x5_1 < (l1.length : Int) := of_decide_eq_true (by first | (with_reducible assumption) | assumption)
        obtain ⟨ad172, e172, hx172_0, hx172_1, hx172_2⟩ := at_T47 HR1.out x5_1 p172 q172
        cases e172
        replace p172 := eq_true p172
        replace q172 := eq_true q172
        go_wp2
        repeat (go_quiet (fail); try go_wp2)
        go_roundg k1
        case measure => have := HK1.out; omega
        case rel => exact ⟨(wrap64 (x5_1 + 1)), (by first | rfl | (simp; done) | (simp [*]; done) | exact congrArg Value.bool (nil_ne _) | exact congrArg Value.bool (nil_eq _) | exact congrArg Value.bool (nil_ne' _)), H', ⟨by have := HK1.out; omega⟩, by repeat (first | exact Drawn0.refl _ | apply Drawn0.step)⟩
      ·rw [if_neg c6] at H
       exact absurd H (by simp)
     ·rw [if_neg c5] at H
      exact absurd H (by simp)
    ·rw [if_neg c4] at H
     have c4b0 : decide (x5_1 < (l0.length : Int)) = false := decide_eq_false c4
     clear c4
     obtain rfl := Option.some.inj H
     go_wp2
     repeat (go_quiet (fail); try go_wp2)
     go_ret
     exact ⟨by first | rfl | (simp; done) | (simp [*]; done), by repeat (first | exact Drawn0.refl _ | apply Drawn0.step)⟩
 ·rw [if_neg c3] at H
  have c3b0 : ((l0.length : Int) == (l1.length : Int)) = false := beq_eq_false_iff_ne.mpr c3
  have c3b1 : ((l0.length : Int) != (l1.length : Int)) = true := bne_iff_ne.mpr c3
  have c3b2 : (l0.length == l1.length) = false := by first | simpa using c3 | (simp at c3 ⊢; omega)
  obtain rfl := Option.some.inj H
  go_enter Tryz.func23, Tryz.ntmps23
  go_wp2
  repeat (go_quiet (fail); try go_wp2)
  go_ret
  exact ⟨by first | rfl | (simp; done) | (simp [*]; done), by repeat (first | exact Drawn0.refl _ | apply Drawn0.step)⟩
end Go.Proofs.YtdijnmcfpbceaaaGreatDoor.P

namespace Go.Proofs.YtdijnmcfpbceaaaGreatDoor.P
open Go.Proofs.YtdijnmcfpbceaaaGreatDoor.X
open Go.RowKit Go.Proofs.YtdijnmcfpbceaaaGreatDoorW.PrintWords Go.Proofs.YtdijnmcfpbceaaaGreatDoorW.PrintLast Go.Proofs.YtdijnmcfpbceaaaGreatDoorW.PrintMore
attribute [local go_sem] min2_int min_two
set_option linter.unusedVariables false
set_option linter.unusedSimpArgs false
def hogsheadlaw0_SameTexts.l0 : Nat → List ByteArray → List ByteArray → Int → Option (Bool)
 | 0, _, _, _ => none
 | k + 1, x0, x1, x5 => if x5 < (x0.length : Int) then (if 0 ≤ x5 then (if x5 < (x1.length : Int) then (if (rdOf ByteArray.empty x0 x5).toList = (rdOf ByteArray.empty x1 x5).toList then (hogsheadlaw0_SameTexts.l0 k x0 x1 (wrap64 (x5 + 1))) else (some false)) else (none)) else (none)) else (some true)
def hogsheadlaw0_SameTexts.f (k : Nat) (l0 : List ByteArray) (l1 : List ByteArray) : Option (Bool) := if (l0.length : Int) = (l1.length : Int) then (hogsheadlaw0_SameTexts.l0 k l0 l1 0) else (some false)
set_option maxHeartbeats 8000000 in
set_option maxRecDepth 100000 in
theorem hogsheadlaw0_SameTexts.calls (k : Nat) (A0 : Option Addr) (c0 : Nat) (l0 : List ByteArray) (A1 : Option Addr) (c1 : Nat) (l1 : List ByteArray) (r : Bool) (w : World) (hr0 : Kd.C Kd.string w A0 l0.length l0) (hc0 : l0.length ≤ c0) (hr1 : Kd.C Kd.string w A1 l1.length l1) (hc1 : l1.length ≤ c1) (h : hogsheadlaw0_SameTexts.f k l0 l1 = some r) :
  Calls Tryz.prog 37 #[.slice A0 l0.length c0, .slice A1 l1.length c1] w fun e w' => e = .returned (.bool r) ∧ Drawn0 w w' := by
 have HR0 := Aside0.mk hr0
 have HC0 := Aside0.mk hc0
 clear hr0 hc0
 have HR1 := Aside0.mk hr1
 have HC1 := Aside0.mk hc1
 clear hr1 hc1
 have H : (if (l0.length : Int) = (l1.length : Int) then (hogsheadlaw0_SameTexts.l0 k l0 l1 0) else (some false)) = some r := h
 clear h
 by_cases c3 : (l0.length : Int) = (l1.length : Int)
 ·rw [if_pos c3] at H
  have c3b0 : ((l0.length : Int) == (l1.length : Int)) = true := beq_iff_eq.mpr c3
  have c3b1 : ((l0.length : Int) != (l1.length : Int)) = false := bne_eq_false_iff_eq.mpr c3
  have c3b2 : (l0.length == l1.length) = true := by first | simpa using c3 | (simp at c3 ⊢; omega)
  clear c3
  have H' := Aside0.mk H
  clear H
  go_enter Tryz.func37, Tryz.ntmps37
  go_wp2
  repeat (go_quiet (fail); try go_wp2)
  go_loopg [5] k (fun kq v5 w' => ∃ (x5_1 : Int), v5 = .int .i64 x5_1 ∧ Aside0 (hogsheadlaw0_SameTexts.l0 kq l0 l1 x5_1 = some r) ∧ Aside0 (kq ≤ k) ∧ Drawn0 w w')
  case atStart => exact ⟨(0), (by first | rfl | (simp; done) | (simp [*]; done) | exact congrArg Value.bool (nil_ne _) | exact congrArg Value.bool (nil_eq _) | exact congrArg Value.bool (nil_ne' _)), H', ⟨Nat.le_refl _⟩, by repeat (first | exact Drawn0.refl _ | apply Drawn0.step)⟩
  case round =>
   clear H'
   try clear c1
   try clear p2
   try clear c3
   try clear c3b0
   try clear c3b1
   try clear c3b2
   obtain ⟨x5_1, rfl, HA, HK1, ⟨m1, rfl⟩⟩ := hrel
   cases gk with
   | zero => exact absurd HA.out (by simp [hogsheadlaw0_SameTexts.l0])
   | succ k1 =>
    have H := HA.out
    clear HA
    simp only [hogsheadlaw0_SameTexts.l0] at H
    by_cases c4 : x5_1 < (l0.length : Int)
    ·rw [if_pos c4] at H
     have c4b0 : decide (x5_1 < (l0.length : Int)) = true := decide_eq_true c4
     clear c4
     by_cases c5 : 0 ≤ x5_1
     ·rw [if_pos c5] at H
      have c5b0 : decide (0 ≤ x5_1) = true := decide_eq_true c5
      clear c5
      by_cases c6 : x5_1 < (l1.length : Int)
      ·rw [if_pos c6] at H
       have c6b0 : decide (x5_1 < (l1.length : Int)) = true := decide_eq_true c6
       clear c6
       by_cases c7 : (rdOf ByteArray.empty l0 x5_1).toList = (rdOf ByteArray.empty l1 x5_1).toList
       ·rw [if_pos c7] at H
        have c7b0 : ((rdOf ByteArray.empty l0 x5_1).toList == (rdOf ByteArray.empty l1 x5_1).toList) = true := beq_iff_eq.mpr c7
        have c7b1 : ((rdOf ByteArray.empty l0 x5_1).toList != (rdOf ByteArray.empty l1 x5_1).toList) = false := bne_eq_false_iff_eq.mpr c7
        clear c7
        have H' := Aside0.mk H
        clear H
        have p173 : 0 ≤ (x5_1 : Int) := of_decide_eq_true (by first | (with_reducible assumption) | assumption)
        have q173 : x5_1 < (l0.length : Int) := of_decide_eq_true (by first | (with_reducible assumption) | assumption)
        obtain ⟨ad173, e173, hx173_0⟩ := Kd.at_string HR0.out x5_1 p173 q173
        cases e173
        replace p173 := eq_true p173
        replace q173 := eq_true q173
        have p174 : 0 ≤ (x5_1 : Int) := of_decide_eq_true (by first | (with_reducible assumption) | assumption)
        have q174 : x5_1 < (l1.length : Int) := of_decide_eq_true (by first | (with_reducible assumption) | assumption)
        obtain ⟨ad174, e174, hx174_0⟩ := Kd.at_string HR1.out x5_1 p174 q174
        cases e174
        replace p174 := eq_true p174
        replace q174 := eq_true q174
        go_wp2
        repeat (go_quiet (fail); try go_wp2)
        go_roundg k1
        case measure => have := HK1.out; omega
        case rel => exact ⟨(wrap64 (x5_1 + 1)), (by first | rfl | (simp; done) | (simp [*]; done) | exact congrArg Value.bool (nil_ne _) | exact congrArg Value.bool (nil_eq _) | exact congrArg Value.bool (nil_ne' _)), H', ⟨by have := HK1.out; omega⟩, by repeat (first | exact Drawn0.refl _ | apply Drawn0.step)⟩
       ·rw [if_neg c7] at H
        have c7b0 : ((rdOf ByteArray.empty l0 x5_1).toList == (rdOf ByteArray.empty l1 x5_1).toList) = false := beq_eq_false_iff_ne.mpr c7
        have c7b1 : ((rdOf ByteArray.empty l0 x5_1).toList != (rdOf ByteArray.empty l1 x5_1).toList) = true := bne_iff_ne.mpr c7
        obtain rfl := Option.some.inj H
        have p173 : 0 ≤ (x5_1 : Int) := of_decide_eq_true (by first | (with_reducible assumption) | assumption)
        have q173 : x5_1 < (l0.length : Int) := of_decide_eq_true (by first | (with_reducible assumption) | assumption)
        obtain ⟨ad173, e173, hx173_0⟩ := Kd.at_string HR0.out x5_1 p173 q173
        cases e173
        replace p173 := eq_true p173
        replace q173 := eq_true q173
        have p174 : 0 ≤ (x5_1 : Int) := of_decide_eq_true (by first | (with_reducible assumption) | assumption)
        have q174 : x5_1 < (l1.length : Int) := of_decide_eq_true (by first | (with_reducible assumption) | assumption)
        obtain ⟨ad174, e174, hx174_0⟩ := Kd.at_string HR1.out x5_1 p174 q174
        cases e174
        replace p174 := eq_true p174
        replace q174 := eq_true q174
        go_wp2
        repeat (go_quiet (fail); try go_wp2)
        go_ret
        exact ⟨by first | rfl | (simp; done) | (simp [*]; done), by repeat (first | exact Drawn0.refl _ | apply Drawn0.step)⟩
      ·rw [if_neg c6] at H
       exact absurd H (by simp)
     ·rw [if_neg c5] at H
      exact absurd H (by simp)
    ·rw [if_neg c4] at H
     have c4b0 : decide (x5_1 < (l0.length : Int)) = false := decide_eq_false c4
     clear c4
     obtain rfl := Option.some.inj H
     go_wp2
     repeat (go_quiet (fail); try go_wp2)
     go_ret
     exact ⟨by first | rfl | (simp; done) | (simp [*]; done), by repeat (first | exact Drawn0.refl _ | apply Drawn0.step)⟩
 ·rw [if_neg c3] at H
  have c3b0 : ((l0.length : Int) == (l1.length : Int)) = false := beq_eq_false_iff_ne.mpr c3
  have c3b1 : ((l0.length : Int) != (l1.length : Int)) = true := bne_iff_ne.mpr c3
  have c3b2 : (l0.length == l1.length) = false := by first | simpa using c3 | (simp at c3 ⊢; omega)
  obtain rfl := Option.some.inj H
  go_enter Tryz.func37, Tryz.ntmps37
  go_wp2
  repeat (go_quiet (fail); try go_wp2)
  go_ret
  exact ⟨by first | rfl | (simp; done) | (simp [*]; done), by repeat (first | exact Drawn0.refl _ | apply Drawn0.step)⟩
end Go.Proofs.YtdijnmcfpbceaaaGreatDoor.P

namespace Go.Proofs.YtdijnmcfpbceaaaGreatDoor.X
open Go.RowKit Go.Proofs.YtdijnmcfpbceaaaGreatDoorW.PrintWords Go.Proofs.YtdijnmcfpbceaaaGreatDoorW.PrintLast Go.Proofs.YtdijnmcfpbceaaaGreatDoorW.PrintMore Go.Proofs.YtdijnmcfpbceaaaGreatDoor.P
set_option linter.unusedVariables false
set_option linter.unusedSimpArgs false
theorem toList_inj {a b : ByteArray} : a.toList = b.toList ↔ a = b := ⟨fun h => by
  rw [ByteArray.toList_eq, ByteArray.toList_eq] at h
  exact toList_extA h, fun h => by rw [h]⟩
def neN (x y : S47) : Bool := (!((x.f0.toList) == (y.f0.toList)) || (!((x.f1) == (y.f1)) || (!((x.f2.toList) == (y.f2.toList)))))
theorem neN_iff (x y : S47) : neN x y = true ↔ x ≠ y := by
  unfold neN
  obtain ⟨a, b, c⟩ := x
  obtain ⟨d, e, f⟩ := y
  dsimp only
  rw [Bool.or_eq_true, Bool.or_eq_true, Bool.not_eq_true', Bool.not_eq_true', Bool.not_eq_true', beq_eq_false_iff_ne, beq_eq_false_iff_ne, beq_eq_false_iff_ne]
  constructor
  · intro h e1
    injection e1 with h1 h2 h3
    rcases h with h | h | h
    · exact h (by rw [h1])
    · exact h h2
    · exact h (by rw [h3])
  · intro h
    refine Classical.byContradiction fun hn => h ?_
    have h1 : a = d := Classical.byContradiction fun x => hn (.inl fun y => x (toList_inj.1 y))
    have h2 : b = e := Classical.byContradiction fun x => hn (.inr (.inl x))
    have h3 : c = f := Classical.byContradiction fun x => hn (.inr (.inr fun y => x (toList_inj.1 y)))
    rw [h1, h2, h3]
theorem sameNodes_l0 (a b : List S47) (hl : a.length = b.length) (hn : a.length ≤ 9223372036854775807) : ∀ (d i : Nat), a.length - i = d → i ≤ a.length → ∃ r, (r = true ↔ a.drop i = b.drop i) ∧ Ev (fun k => hogsheadlaw0_SameNodes.l0 k a b (i : Int)) r := by
  intro d
  induction d with
  | zero =>
    intro i hd hi
    refine ⟨true, ⟨fun _ => by rw [List.drop_eq_nil_of_le (by omega), List.drop_eq_nil_of_le (by omega)], fun _ => rfl⟩, 1, fun k hk => ?_⟩
    obtain ⟨k, rfl⟩ : ∃ m, k = m + 1 := ⟨k - 1, by omega⟩
    simp only [hogsheadlaw0_SameNodes.l0]
    rw [if_neg (by omega)]
  | succ d ih =>
    intro i hd hi
    have hlt : i < a.length := by omega
    have hlt2 : i < b.length := by omega
    obtain ⟨r, hr, K, hK⟩ := ih (i + 1) (by omega) (by omega)
    have ea := rdN_get a i hlt
    have eb := rdN_get b i hlt2
    by_cases e : a[i] = b[i]
    · refine ⟨r, ?_, K + 1, fun k hk => ?_⟩
      · rw [hr, List.drop_eq_getElem_cons hlt, List.drop_eq_getElem_cons hlt2, List.cons.injEq]
        exact ⟨fun h => ⟨e, h⟩, fun h => h.2⟩
      · obtain ⟨k, rfl⟩ : ∃ m, k = m + 1 := ⟨k - 1, by omega⟩
        have hne : ¬ neN a[i] b[i] = true := fun h => (neN_iff _ _).1 h e
        simp only [hogsheadlaw0_SameNodes.l0]
        rw [if_pos (by omega), if_pos (by omega), if_pos (by omega), ea, eb, if_neg (by exact hne), wrap_i i a.length hlt hn]
        exact hK k (by omega)
    · refine ⟨false, ⟨fun h => (by cases h), fun h => ?_⟩, 1, fun k hk => ?_⟩
      · rw [List.drop_eq_getElem_cons hlt, List.drop_eq_getElem_cons hlt2, List.cons.injEq] at h
        exact absurd h.1 e
      · obtain ⟨k, rfl⟩ : ∃ m, k = m + 1 := ⟨k - 1, by omega⟩
        have hne : neN a[i] b[i] = true := (neN_iff _ _).2 e
        simp only [hogsheadlaw0_SameNodes.l0]
        rw [if_pos (by omega), if_pos (by omega), if_pos (by omega), ea, eb, if_pos (by exact hne)]
theorem sameNodes_calls (A0 : Option Addr) (c0 : Nat) (a : List S47) (A1 : Option Addr) (c1 : Nat) (b : List S47) (w : World) (hr0 : Kd.C k47 w A0 a.length a) (hc0 : a.length ≤ c0) (hr1 : Kd.C k47 w A1 b.length b) (hc1 : b.length ≤ c1) :
    Calls Tryz.prog 23 #[.slice A0 a.length c0, .slice A1 b.length c1] w fun e w' => ∃ r, e = .returned (.bool r) ∧ (r = true ↔ a = b) ∧ Below w.heap.size w w' := by
  have hn : a.length ≤ 9223372036854775807 := hr0.2.1
  obtain ⟨r, hr, K, hK⟩ : ∃ r, (r = true ↔ a = b) ∧ Ev (fun k => hogsheadlaw0_SameNodes.f k a b) r := by
    by_cases h : a.length = b.length
    · obtain ⟨r, hr, K, hK⟩ := sameNodes_l0 a b h hn a.length 0 (by omega) (by omega)
      refine ⟨r, by simpa using hr, K, fun k hk => ?_⟩
      show hogsheadlaw0_SameNodes.f k a b = _
      unfold hogsheadlaw0_SameNodes.f
      rw [if_pos (by omega)]
      exact hK k hk
    · refine ⟨false, ⟨fun h => (by cases h), fun e => absurd (by rw [e]) h⟩, 0, fun k hk => ?_⟩
      show hogsheadlaw0_SameNodes.f k a b = _
      unfold hogsheadlaw0_SameNodes.f
      rw [if_neg (by omega)]
  exact (hogsheadlaw0_SameNodes.calls K A0 c0 a A1 c1 b r w hr0 hc0 hr1 hc1 (hK K (Nat.le_refl _))).mono fun e w' ⟨h1, h2⟩ => ⟨r, h1, hr, h2.below⟩
theorem sameTexts_one (A0 : Option Addr) (c0 : Nat) (A1 : Option Addr) (c1 : Nat) (s : ByteArray) (w : World) (hr0 : Kd.C Kd.string w A0 1 [s]) (hc0 : 1 ≤ c0) (hr1 : Kd.C Kd.string w A1 1 [s]) (hc1 : 1 ≤ c1) :
    Calls Tryz.prog 37 #[.slice A0 1 c0, .slice A1 1 c1] w fun e w' => e = .returned (.bool true) ∧ Below w.heap.size w w' := by
  have h : hogsheadlaw0_SameTexts.f 2 [s] [s] = some true := by
    unfold hogsheadlaw0_SameTexts.f
    rw [if_pos rfl]
    unfold hogsheadlaw0_SameTexts.l0
    rw [if_pos (by simp), if_pos (by decide), if_pos (by simp), if_pos rfl]
    unfold hogsheadlaw0_SameTexts.l0
    rw [if_neg (by rw [show wrap64 (0 + 1) = 1 from by unfold wrap64; omega]; simp)]
  exact (hogsheadlaw0_SameTexts.calls 2 A0 c0 [s] A1 c1 [s] true w hr0 hc0 hr1 hc1 h).mono fun e w' ⟨h1, h2⟩ => ⟨h1, h2.below⟩
set_option maxHeartbeats 4000000 in
set_option maxRecDepth 100000 in
theorem names_calls (A : Option Addr) (c : Nat) (bs : List Int) (w : World) (hT : Aside0 (Tabs w)) (hE : Aside0 (ErrV w)) (hC : (Kd.int .u8).C w A bs.length bs) (hc : bs.length ≤ c) (hl : bs.length ≤ 1000000) (hby : Bytes bs) :
    Calls Tryz.prog 22 #[.slice A bs.length c] w fun e w' => ∃ v, e = .returned (.tuple #[v, .int .i64 (untR bs).2]) ∧ w'.ownsRow w.heap.size 9 1 v (untR bs).1.length (((untR bs).1.map fun n => n.f0).map Value.string) ∧ Below w.heap.size w w' := by
  have HS := Aside0.mk (show (untR bs).1.length ≤ 400 from by
    rcases unt_cases bs with e | ⟨t, e, ht, _⟩
    · rw [e]
      exact Nat.zero_le _
    · rw [e]
      exact (treeB_good ht).2)
  obtain ⟨R, hR⟩ : ∃ R, untR bs = R := ⟨_, rfl⟩
  have HU := Aside0.mk (uread_calls A c bs w hT hE hC hc hl hby)
  rw [hR] at HU HS ⊢
  clear hR
  obtain ⟨t, code⟩ := R
  dsimp only at HU HS ⊢
  go_enter Tryz.func22, Tryz.ntmps22
  go_wp2_with fail
  refine HU.out.mono ?_
  rintro e w1 ⟨v, rfl, ho, hb⟩
  have hts := HS.out
  obtain ⟨A1, c1, rfl, hc1, hC1⟩ := row_reads ho
  have HB1 := Aside0.mk hb
  have HC1 := Aside0.mk hC1
  clear ho hb hC1
  go_wp2_with fail
  go_loopw [6, 16] (fun v6 v16 wr => ∃ (i : Nat) (v : Value), v6 = v ∧ v16 = .int .i64 i ∧ i ≤ t.length ∧ Aside0 (wr.ownsRow w1.heap.size 9 1 v ((t.take i).map fun n => n.f0).length (encs Value.string ((t.take i).map fun n => n.f0))) ∧ Aside0 (Below w1.heap.size w1 wr)) (fun _ b _ => t.length - (intOf b).toNat)
  case atStart => exact ⟨0, _, rfl, rfl, by omega, ⟨⟨rfl, .inl ⟨rfl, rfl⟩⟩⟩, ⟨Below.refl _ _⟩⟩
  case round =>
    obtain ⟨i, v, hv6, rfl, hi, HO, HBb⟩ := hrel
    subst hv6
    obtain ⟨A6, c6, rfl⟩ := own_slice HO.out
    by_cases hil : i < t.length
    · have hic : decide ((i : Int) < (t.length : Int)) = true := decide_eq_true (by omega)
      have hi0 : 0 ≤ (i : Int) := by omega
      obtain ⟨ad, rfl, z0, z1, z2⟩ := at_T47 (Kd.C_below HC1.out HBb.out) (i : Int) (by omega) (by omega)
      simp only [Int.toNat_natCast] at z0 z1 z2
      have HX := Aside0.mk (rdN_get t i hil)
      generalize rd_T47 t (i : Int) = x at *
      have HBn := Aside0.mk (below_alloc (Below.refl wr.heap.size wr) (.cells #[.string x.f0, .int .i64 x.f1, .string x.f2] 47))
      have HOn := Aside0.mk (ownG HO.out HBn.out)
      have HBb2 := Aside0.mk (below_step HBb.out HBn.out)
      have hml : ((t.take i).map fun n => n.f0).length = i := by rw [List.length_map, List.length_take]; omega
      have HMs := Aside0.mk (show ((t.take i).map fun n => n.f0) ++ [x.f0] = (t.take (i + 1)).map fun n => n.f0 from by
        rw [List.take_succ_eq_append_getElem hil, List.map_append, HX.out]
        rfl)
      generalize hts : ((t.take i).map fun n => n.f0) = ts at *
      clear hts
      go_wp2_with (at_builtin; refine print_append_of (w0 := w1) Value.string w1.heap.size rfl (.tmp 20) (.tmp 23) 43 9 (.string ⟨#[]⟩) 16 rfl Tryz.underlying43 (by kernel_rfl) rfl (by decide) (.slice A6 ts.length c6) ts x.f0 rfl (by show Value.slice (some ⟨wr.heap.size + 1, 0, none⟩) 1 1 = _; rw [show (wr.alloc (.cells #[.string x.f0, .int .i64 x.f1, .string x.f2] 47)).heap.size = wr.heap.size + 1 from by simp [World.alloc, -World.alloc_eq]]) rfl HOn.out HBb2.out HBb2.out.size (by omega) ?_; intro v4 w4 ho4 hb4 hg4 _; have HO4 := Aside0.mk ho4; have HB4 := Aside0.mk hb4; have HG4 := Aside0.mk hg4; clear ho4 hb4 hg4)
      have hml2 : ((t.take (i + 1)).map fun n => n.f0).length = i + 1 := by rw [List.length_map, List.length_take]; omega
      rw [HMs.out] at HO4
      exact ⟨⟨i + 1, v4, rfl, by simp, by omega, HO4, HB4⟩, by simp only [intOf]; omega⟩
    · have hic : decide ((i : Int) < (t.length : Int)) = false := decide_eq_false (by omega)
      have hie : i = t.length := by omega
      subst hie
      rw [List.take_length, List.length_map] at HO ⊢
      have HF := Aside0.mk (show wr.ownsRow w1.heap.size 9 1 (.slice A6 t.length c6) t.length ((t.map fun n => n.f0).map Value.string) from by
        exact HO.out)
      clear HO
      go_wp2_with fail
      go_ret2
      exact ⟨_, rfl, own_weaken HF.out HB1.out.size, below_step HB1.out HBb.out⟩
end Go.Proofs.YtdijnmcfpbceaaaGreatDoor.X

namespace Go.Proofs.YtdijnmcfpbceaaaGreatDoor.X
open Go.RowKit Go.Proofs.YtdijnmcfpbceaaaGreatDoorW.PrintWords Go.Proofs.YtdijnmcfpbceaaaGreatDoorW.PrintLast Go.Proofs.YtdijnmcfpbceaaaGreatDoorW.PrintMore Go.Proofs.YtdijnmcfpbceaaaGreatDoor.P
set_option linter.unusedVariables false
set_option linter.unusedSimpArgs false
def nodeD : S47 := ⟨⟨#[]⟩, 1, ⟨#[]⟩⟩
theorem treeD : treeB [nodeD] = true := by decide
def dotD : ByteArray := ⟨#[46]⟩
theorem nameD : nameN nodeD = dotD := rfl
theorem extraD : extraN nodeD = ⟨#[]⟩ := by
  unfold extraN
  rw [if_neg (by decide), if_neg (by decide)]
  exact empty_append _
theorem cutD : cutS dotD = dotD := by
  unfold cutS
  apply toList_extA
  rfl
theorem entsD : entsT [nodeD] = [⟨dotD, 1, ⟨#[]⟩, ⟨#[]⟩⟩] := by
  unfold entsT entsN
  simp only [List.flatMap_cons, List.flatMap_nil, List.append_nil]
  rw [extraD]
  rw [if_pos (show (⟨#[]⟩ : ByteArray).size = 0 from rfl)]
  unfold ownE
  rw [if_neg (by decide), nameD, cutD]
  rfl
theorem tarD : tarB [nodeD] = layB dotD 1 0 ⟨#[]⟩ ++ List.replicate 1024 0 := by
  unfold tarB
  rw [entsD]
  have h : entryB ⟨dotD, 1, ⟨#[]⟩, ⟨#[]⟩⟩ = layB dotD 1 0 ⟨#[]⟩ := by
    unfold entryB
    have h1 : layR dotD 1 0 ⟨#[]⟩ = (layB dotD 1 0 ⟨#[]⟩, true) := by
      unfold layR
      rw [if_pos ⟨by decide, by omega, by omega⟩]
      rfl
    have h2 : (((⟨#[]⟩ : ByteArray).size : Nat) : Int) = 0 := rfl
    have h3 : bytesOf (⟨#[]⟩ : ByteArray) = [] := rfl
    have h4 : padN (⟨#[]⟩ : ByteArray).size = 0 := rfl
    simp only [h2, h1, h3, h4, List.replicate_zero, List.append_nil]
  simp only [List.flatMap_cons, List.flatMap_nil, List.append_nil]
  rw [h]
theorem tarD_length : (tarB [nodeD]).length = 1536 := by
  rw [tarD, List.length_append, layB_length _ _ _ _ (by decide) (by decide), List.length_replicate]
theorem singG {α : Type} {d : Kd α} {w : World} {g t : Nat} {cs : List Value} {x : α} (h : w.heap[g]? = some (.cells cs.toArray t (0, 0))) (hK : d.K w x cs) : d.C w (some ⟨g, 0, none⟩) 1 [x] := by
  refine ⟨rfl, by omega, fun _ => ⟨⟨g, 0, none⟩, rfl, fun j p hj => ?_⟩⟩
  cases j with
  | zero =>
    cases hj
    refine ⟨cs, d.K_len hK, hK, fun i u hu => ?_⟩
    rw [Nat.zero_mul, Nat.zero_add]
    exact newsG h _ rfl i u hu
  | succ j => simp at hj
end Go.Proofs.YtdijnmcfpbceaaaGreatDoor.X

namespace Go.Proofs.YtdijnmcfpbceaaaGreatDoor.X
open Go.RowKit Go.Proofs.YtdijnmcfpbceaaaGreatDoorW.PrintWords Go.Proofs.YtdijnmcfpbceaaaGreatDoorW.PrintLast Go.Proofs.YtdijnmcfpbceaaaGreatDoorW.PrintMore Go.Proofs.YtdijnmcfpbceaaaGreatDoor.P
set_option linter.unusedVariables false
set_option linter.unusedSimpArgs false
theorem unt_zeros : untR (List.replicate 1024 0) = ([], 5) := by
  rcases unt_cases (List.replicate 1024 0) with e | ⟨t, e, ht, hb⟩
  · exact e
  · exfalso
    have h1 := (tarB_len ht).1
    rw [hb, List.length_replicate] at h1
    have h2 : 1 ≤ sumH t := by
      cases t with
      | nil => exact absurd ht (by decide)
      | cons n l => unfold sumH headN; rw [List.map_cons, List.sum_cons]; omega
    omega
theorem own_C {w : World} {base e : Nat} {A : Option Addr} {n c : Nat} {xs : List Int} (h : w.ownsRow base e 1 (.slice A n c) n (nums .u8 xs)) (hn : n = xs.length) : (Kd.int .u8).C w A n xs ∧ n ≤ c := by
  subst hn
  have hcap := own_cap h
  obtain ⟨A', c', e1, h1⟩ := own_reads h
  cases e1
  exact ⟨Kd.C_of_reads (d := (0 : Int)) (h1 := fun _ => rfl) h1, hcap⟩
theorem own_S1 {w : World} {base e : Nat} {v : Value} {s : ByteArray} (h : w.ownsRow base e 1 v 1 [Value.string s]) : ∃ A c, v = .slice A 1 c ∧ Kd.string.C w A 1 [s] ∧ 1 ≤ c := by
  obtain ⟨A, c, rfl, hr⟩ := own_reads_row (R := fun p c => Kd.string.K w p c) h (Reps.one (show Kd.string.K w s [.string s] from rfl) (Reps.none _ _)) rfl
  exact ⟨A, c, rfl, hr, own_cap h⟩
set_option maxHeartbeats 4000000 in
set_option maxRecDepth 100000 in
theorem awake14_calls (w : World) (hT : Aside0 (Tabs w)) (hE : Aside0 (ErrV w)) :
    Calls Tryz.prog 18 #[] w fun e w' => e = .returned (.bool true) ∧ Below w.heap.size w w' := by
  go_enter Tryz.func18, Tryz.ntmps18
  have HTR := Aside0.mk (show tarR [nodeD] = (tarB [nodeD], 0) from by unfold tarR; rw [if_pos treeD])
  have HTL := Aside0.mk tarD_length
  have HUb := Aside0.mk (unt_back treeD)
  have HBy := Aside0.mk (tarB_Bytes [nodeD])
  go_wp2_with fail
  refine (tarLay_calls (some ⟨w.heap.size, 0, none⟩) 1 [nodeD] _ ⟨Tabs.below hT.out (below_alloc (Below.refl _ _) _)⟩ (singG (blk_new w _) (k47_mk _ nodeD)) (Nat.le_refl 1) (by simp)).mono ?_
  rintro e w1 ⟨v, rfl, ho, hb⟩
  have HB := Aside0.mk (below_step (below_alloc (Below.refl w.heap.size w) (.cells #[.string ⟨#[]⟩, .int .i64 1, .string ⟨#[]⟩] 47)) hb)
  rw [HTR.out] at ho
  rw [HTR.out]
  generalize tarB [nodeD] = bs at *
  obtain ⟨A, c, rfl, hR⟩ := own_reads ho
  have hcap := own_cap ho
  have HC := Aside0.mk (show (Kd.int .u8).C w1 A bs.length bs from Kd.C_of_reads (d := (0 : Int)) (h1 := fun _ => rfl) hR)
  have hbl : bs.length ≤ 1000000 := by have := HTL.out; omega
  clear hb ho hR HTR
  go_wp2_with fail
  refine (uread_calls A c bs w1 ⟨Tabs.below hT.out HB.out⟩ ⟨hE.out.below HB.out⟩ HC.out hcap hbl HBy.out).mono ?_
  rintro e w2 ⟨v2, rfl, ho2, hb2⟩
  rw [HUb.out] at ho2
  rw [HUb.out]
  obtain ⟨A2, c2, rfl, hc2, hC2⟩ := row_reads ho2
  have HB2 := Aside0.mk (below_step HB.out hb2)
  have HC2 := Aside0.mk hC2
  have HCb := Aside0.mk (Kd.C_below HC.out hb2)
  clear ho2 hb2 hC2 HC
  have hmk := show ∀ W : World, (Instr.makeSlice 26 (.int .i64 1024) (.int .i64 1024)).run Tryz.prog W = .ok (.slice (some ⟨W.heap.size, 0, none⟩) 1024 1024) (W.alloc (.cells (madeCells #[.int .u8 0] 1024) 5)) from fun W => print_make (P := Tryz.prog) 26 5 .u8 1 Tryz.underlying26 (by kernel_rfl) (by decide) 1024 (by decide) W
  have HOm := Aside0.mk (own_made w2 w2.heap.size 5 .u8 1024 (Nat.le_refl _) (by decide))
  have HBm := Aside0.mk (below_alloc (Below.refl w2.heap.size w2) (.cells (madeCells #[.int .u8 0] 1024) 5))
  go_wp2_with fail
  clear hmk
  obtain ⟨hCz, hcz⟩ := own_C HOm.out (by simp)
  have HB3 := Aside0.mk (below_step HB2.out HBm.out)
  have HC3 := Aside0.mk (Kd.C_below HC2.out HBm.out)
  have HCb3 := Aside0.mk (Kd.C_below HCb.out HBm.out)
  have HUz := Aside0.mk (uread_calls (some ⟨w2.heap.size, 0, none⟩) 1024 (List.replicate 1024 0) _ ⟨Tabs.below hT.out HB3.out⟩ ⟨hE.out.below HB3.out⟩ (by rw [List.length_replicate]; exact hCz) (by rw [List.length_replicate]; exact Nat.le_refl _) (by rw [List.length_replicate]; decide) (bytes_rep _))
  rw [List.length_replicate, unt_zeros] at HUz
  generalize w2.alloc (.cells (madeCells #[.int .u8 0] 1024) 5) = w3 at *
  clear HOm HBm HC2 HCb hCz HB2
  refine HUz.out.mono ?_
  rintro e w4 ⟨v4, rfl, _, hb4⟩
  have HB4 := Aside0.mk (below_step HB3.out hb4)
  have HC4 := Aside0.mk (Kd.C_below HC3.out hb4)
  have HCb4 := Aside0.mk (Kd.C_below HCb3.out hb4)
  clear HUz hb4 HB3 HC3 HCb3
  go_wp2_with fail
  refine (names_calls A c bs w4 ⟨Tabs.below hT.out HB4.out⟩ ⟨hE.out.below HB4.out⟩ HCb4.out hcap hbl HBy.out).mono ?_
  rintro e w5 ⟨v5, rfl, ho5, hb5⟩
  rw [HUb.out] at ho5
  rw [HUb.out]
  obtain ⟨A5, c5, rfl, hC5, hc5⟩ := own_S1 (s := ⟨#[]⟩) ho5
  have HB5 := Aside0.mk (below_step HB4.out hb5)
  have HC5 := Aside0.mk (Kd.C_below HC4.out hb5)
  have HS5 := Aside0.mk hC5
  have h1536 : ((bs.length : Int) == 1536) = true := by rw [HTL.out]; rfl
  clear ho5 hb5 hC5 HB4 HC4 HCb4
  go_wp2_with fail
  have HBn := Aside0.mk (below_alloc (Below.refl w5.heap.size w5) (.cells #[.string ⟨#[]⟩, .int .i64 1, .string ⟨#[]⟩] 47))
  refine (sameNodes_calls A2 c2 [nodeD] (some ⟨w5.heap.size, 0, none⟩) 1 [nodeD] _ (Kd.C_below HC5.out HBn.out) hc2 (singG (blk_new w5 _) (k47_mk _ nodeD)) (Nat.le_refl 1)).mono ?_
  rintro e w6 ⟨r, rfl, hr, hb6⟩
  obtain rfl : r = true := hr.2 rfl
  have HB6 := Aside0.mk (below_step (below_step HB5.out HBn.out) hb6)
  have HS6 := Aside0.mk (Kd.C_below (Kd.C_below HS5.out HBn.out) hb6)
  clear hr hb6 HBn HC5 HS5 HB5
  go_wp2_with fail
  have HBs := Aside0.mk (below_alloc (Below.refl w6.heap.size w6) (.cells #[.string ⟨#[]⟩] 9))
  refine (sameTexts_one A5 c5 (some ⟨w6.heap.size, 0, none⟩) 1 ⟨#[]⟩ _ (Kd.C_below HS6.out HBs.out) hc5 (singG (d := Kd.string) (blk_new w6 _) rfl) (Nat.le_refl 1)).mono ?_
  rintro e w7 ⟨rfl, hb7⟩
  have HB7 := Aside0.mk (below_step (below_step HB6.out HBs.out) hb7)
  clear hb7 HBs HS6 HB6
  go_wp2_with fail
  go_ret
  exact ⟨rfl, HB7.out⟩
end Go.Proofs.YtdijnmcfpbceaaaGreatDoor.X

namespace Go.Proofs.YtdijnmcfpbceaaaGreatDoor.X
open Go.RowKit Go.Proofs.YtdijnmcfpbceaaaGreatDoorW.PrintWords Go.Proofs.YtdijnmcfpbceaaaGreatDoorW.PrintLast Go.Proofs.YtdijnmcfpbceaaaGreatDoorW.PrintMore Go.Proofs.YtdijnmcfpbceaaaGreatDoor.P
set_option linter.unusedVariables false
set_option linter.unusedSimpArgs false
theorem digL_bound : ∀ (f n i : Nat) (l : List UInt8) (B : Nat), n < B → (digL f n i l).1 < B * 10 ^ f
  | 0, n, i, l, B, h => by
    unfold digL
    show n < _
    rw [Nat.pow_zero]
    omega
  | f + 1, n, i, [], B, h => by
    unfold digL
    show n < _
    have : 1 ≤ 10 ^ (f + 1) := Nat.one_le_pow _ _ (by omega)
    exact Nat.lt_of_lt_of_le h (Nat.le_mul_of_pos_right _ (by omega))
  | f + 1, n, i, c :: l, B, h => by
    unfold digL
    split
    · rename_i hc
      have := digL_bound f (n * 10 + (c.toNat - 48)) (i + 1) l (B * 10) (by omega)
      rw [Nat.pow_succ', ← Nat.mul_assoc]
      exact this
    · have : 1 ≤ 10 ^ (f + 1) := Nat.one_le_pow _ _ (by omega)
      exact Nat.lt_of_lt_of_le h (Nat.le_mul_of_pos_right _ (by omega))
theorem digL_le2 : ∀ (f n i : Nat) (l : List UInt8), (digL f n i l).2 ≤ i + f
  | 0, n, i, l => by unfold digL; show i ≤ _; omega
  | f + 1, n, i, [] => by unfold digL; show i ≤ _; omega
  | f + 1, n, i, c :: l => by
    unfold digL
    split
    · have := digL_le2 f (n * 10 + (c.toNat - 48)) (i + 1) l
      omega
    · show i ≤ _
      omega
theorem digL_stop (f n i : Nat) (l : List UInt8) (h : f = 0 ∨ l = [] ∨ ∃ c r, l = c :: r ∧ ¬ (48 ≤ c.toNat ∧ c.toNat ≤ 57)) : digL f n i l = (n, i) := by
  cases f with
  | zero => rfl
  | succ f =>
    rcases h with h | rfl | ⟨c, r, rfl, hc⟩
    · omega
    · rfl
    · unfold digL
      rw [if_neg hc]
theorem digL_step (f n i : Nat) (c : UInt8) (l : List UInt8) (h : 48 ≤ c.toNat ∧ c.toNat ≤ 57) : digL (f + 1) n i (c :: l) = digL f (n * 10 + (c.toNat - 48)) (i + 1) l := by
  conv => lhs; unfold digL
  rw [if_pos h]
theorem pathE_list : pathE.toList = [112, 97, 116, 104, 61] := by rw [ByteArray.toList_eq]; rfl
theorem linkE_list : linkE.toList = [108, 105, 110, 107, 112, 97, 116, 104, 61] := by rw [ByteArray.toList_eq]; rfl
def strLen : Value → Nat
  | .string s => s.size
  | _ => 0
set_option maxHeartbeats 8000000 in
set_option maxRecDepth 100000 in
theorem refRecords_calls (s0 : ByteArray) (w : World) (hs : s0.size ≤ 1000000) :
    Calls Tryz.prog 42 #[.string s0] w fun e w' => e = .returned (.tuple #[.string (recsA (s0.size + 1) s0 ⟨#[]⟩ ⟨#[]⟩).1, .string (recsA (s0.size + 1) s0 ⟨#[]⟩ ⟨#[]⟩).2]) ∧ Below w.heap.size w w' := by
  obtain ⟨R, hR⟩ : ∃ R, recsA (s0.size + 1) s0 ⟨#[]⟩ ⟨#[]⟩ = R := ⟨_, rfl⟩
  have HR0 := Aside0.mk hR
  rw [hR]
  clear hR
  go_enter Tryz.func42, Tryz.ntmps42
  go_wp2_with fail
  go_loopw [0, 4, 5] (fun v0 v4 v5 wr => ∃ (s p l : ByteArray) (f : Nat), v0 = .string s ∧ v4 = .string p ∧ v5 = .string l ∧ s.size ≤ s0.size ∧ s.size < f ∧ Aside0 (recsA f s p l = R) ∧ Aside0 (wr = w)) (fun v _ _ _ => strLen v)
  case atStart => exact ⟨s0, ⟨#[]⟩, ⟨#[]⟩, s0.size + 1, rfl, rfl, rfl, by omega, by omega, HR0, ⟨rfl⟩⟩
  case round =>
    clear HR0
    obtain ⟨s, p, l, f, rfl, rfl, rfl, hss, hsf, HR, HW⟩ := hrel
    obtain rfl := HW.out
    obtain ⟨f, rfl⟩ : ∃ k, f = k + 1 := ⟨f - 1, by omega⟩
    by_cases h0 : s.size = 0
    · have hz : decide ((0 : Int) < (s.size : Int)) = false := decide_eq_false (by omega)
      have HF := Aside0.mk (show R = (p, l) from by rw [← HR.out, recsA_nil _ _ _ _ h0])
      go_wp2_with fail
      go_ret2
      rw [HF.out]
      exact ⟨rfl, Below.refl _ _⟩
    · have hz : decide ((0 : Int) < (s.size : Int)) = true := decide_eq_true (by omega)
      have hzn : decide (0 < s.size) = true := decide_eq_true (by omega)
      obtain ⟨⟨dn, di⟩, hD⟩ : ∃ D, digL 6 0 0 s.data.toList = D := ⟨_, rfl⟩
      have hD1 : dn < 1000000 := by
        have := digL_bound 6 0 0 s.data.toList 1 (by omega)
        rw [hD] at this
        exact this
      have hD2 : di ≤ s.size := by
        have := (digL_le 6 0 0 s.data.toList).2
        rw [hD, data_length] at this
        have h2 : di ≤ 0 + s.size := this
        omega
      have hD3 : di ≤ 6 := by
        have := digL_le2 6 0 0 s.data.toList
        rw [hD] at this
        have h2 : di ≤ 0 + 6 := this
        omega
      have HD := Aside0.mk hD
      clear hD
      go_upto_block 2 with (fail)
      go_cut [6, 7] (fun v6 v7 wc => v6 = .int .i64 (dn : Nat) ∧ v7 = .int .i64 (di : Nat) ∧ Aside0 (wc = wr))
      case first =>
        go_wp2_with fail
        obtain ⟨wo, rfl⟩ : ∃ wo : World, wo = wr := ⟨_, rfl⟩
        go_loopw [6, 7] (fun v6 v7 wi => ∃ n i : Nat, v6 = .int .i64 n ∧ v7 = .int .i64 i ∧ i ≤ 6 ∧ i ≤ s.size ∧ n < 1000000 ∧ Aside0 (n < 10 ^ i) ∧ Aside0 (digL (6 - i) n i (s.data.toList.drop i) = (dn, di)) ∧ Aside0 (wi = wo)) (fun _ v _ => 6 - (intOf v).toNat)
        case atStart => exact ⟨0, 0, rfl, rfl, by omega, by omega, by omega, ⟨by decide⟩, HD, ⟨rfl⟩⟩
        case round =>
          clear HD
          obtain ⟨n, i, rfl, rfl, hi6, his, hn6, HP, HDr, HWi⟩ := hrel
          obtain rfl := HWi.out
          have hi0 : 0 ≤ (i : Int) := by omega
          by_cases hil : i < s.size
          · have hilc : decide ((i : Int) < (s.size : Int)) = true := decide_eq_true (by omega)
            have hcons := List.drop_eq_getElem_cons (show i < s.data.toList.length by rw [data_length]; exact hil)
            by_cases h6 : i < 6
            · have h6c : decide ((i : Int) < 6) = true := decide_eq_true (by omega)
              obtain ⟨k, hk⟩ : ∃ k, 6 - i = k + 1 := ⟨5 - i, by omega⟩
              have hk2 : 6 - (i + 1) = k := by omega
              rw [hcons, hk] at HDr
              have hbx : (s[i]'hil).toNat = (s.data.toList[i]'(by rw [data_length]; exact hil)).toNat := by
                have h1 := bt_nat s i hil
                unfold bt at h1
                simp only [Int.toNat_natCast] at h1
                rw [dif_pos hil] at h1
                exact Int.ofNat.inj h1
              generalize s.data.toList[i]'(by rw [data_length]; exact hil) = c at *
              by_cases hd : 48 ≤ c.toNat ∧ c.toNat ≤ 57
              · rw [digL_step k n i c _ hd] at HDr
                rw [← hk2] at HDr
                have HPn := Aside0.mk (show n * 10 + (c.toNat - 48) < 10 ^ (i + 1) from by
                  have := HP.out
                  rw [Nat.pow_succ]
                  omega)
                have hnn : n * 10 + (c.toNat - 48) < 1000000 := by
                  have h1 := HPn.out
                  have h2 : 10 ^ (i + 1) ≤ 10 ^ 6 := Nat.pow_le_pow_right (by omega) (by omega)
                  have h3 : (10 : Nat) ^ 6 = 1000000 := by decide
                  omega
                have hg48 : decide ((48 : Int) ≤ ((s[i]'hil).toNat : Int)) = true := decide_eq_true (by rw [hbx]; omega)
                have hg57 : decide (((s[i]'hil).toNat : Int) ≤ (57 : Int)) = true := decide_eq_true (by rw [hbx]; omega)
                have hgn48 : decide (48 ≤ (s[i]'hil).toNat) = true := decide_eq_true (by rw [hbx]; omega)
                have hgn57 : decide ((s[i]'hil).toNat ≤ 57) = true := decide_eq_true (by rw [hbx]; omega)
                have HBX := Aside0.mk hbx
                clear hbx hcons hk hk2 HP
                go_wp2_with fail
                refine ⟨⟨n * 10 + (c.toNat - 48), i + 1, ?_, by simp, by omega, by omega, hnn, HPn, HDr, ⟨trivial⟩⟩, by simp only [intOf]; omega⟩
                rw [HBX.out]
                congr 1
                omega
              · have HE := Aside0.mk (show n = dn ∧ i = di from by
                  have h := HDr.out
                  rw [digL_stop _ _ _ _ (.inr (.inr ⟨_, _, rfl, hd⟩))] at h
                  exact ⟨(Prod.mk.inj h).1, (Prod.mk.inj h).2⟩)
                by_cases h48 : 48 ≤ c.toNat
                · have hg48 : decide ((48 : Int) ≤ ((s[i]'hil).toNat : Int)) = true := decide_eq_true (by rw [hbx]; omega)
                  have hg57 : decide (((s[i]'hil).toNat : Int) ≤ (57 : Int)) = false := decide_eq_false (by rw [hbx]; omega)
                  have hgn48 : decide (48 ≤ (s[i]'hil).toNat) = true := decide_eq_true (by rw [hbx]; omega)
                  have hgn57 : decide ((s[i]'hil).toNat ≤ 57) = false := decide_eq_false (by rw [hbx]; omega)
                  clear hbx hcons hk hk2 HP HDr
                  go_wp2_with fail
                  go_meet
                  exact ⟨by rw [HE.out.1], by rw [HE.out.2], ⟨rfl⟩⟩
                · have hg48 : decide ((48 : Int) ≤ ((s[i]'hil).toNat : Int)) = false := decide_eq_false (by rw [hbx]; omega)
                  have hgn48 : decide (48 ≤ (s[i]'hil).toNat) = false := decide_eq_false (by rw [hbx]; omega)
                  clear hbx hcons hk hk2 HP HDr
                  go_wp2_with fail
                  go_meet
                  exact ⟨by rw [HE.out.1], by rw [HE.out.2], ⟨rfl⟩⟩
            · have h6c : decide ((i : Int) < 6) = false := decide_eq_false (by omega)
              have HE := Aside0.mk (show n = dn ∧ i = di from by
                have h := HDr.out
                rw [digL_stop _ _ _ _ (.inl (by omega))] at h
                exact ⟨(Prod.mk.inj h).1, (Prod.mk.inj h).2⟩)
              clear hcons HP HDr
              go_wp2_with fail
              go_meet
              exact ⟨by rw [HE.out.1], by rw [HE.out.2], ⟨rfl⟩⟩
          · have hilc : decide ((i : Int) < (s.size : Int)) = false := decide_eq_false (by omega)
            have HE := Aside0.mk (show n = dn ∧ i = di from by
              have h := HDr.out
              rw [digL_stop _ _ _ _ (.inr (.inl (List.drop_eq_nil_of_le (by rw [data_length]; omega))))] at h
              exact ⟨(Prod.mk.inj h).1, (Prod.mk.inj h).2⟩)
            clear HP HDr
            go_wp2_with fail
            go_meet
            exact ⟨by rw [HE.out.1], by rw [HE.out.2], ⟨rfl⟩⟩
      case rest =>
        obtain ⟨rfl, rfl, hW⟩ := hcut
        obtain rfl := hW.out
        clear hW
        obtain ⟨c1, hc1⟩ : ∃ b, decide ((dn : Int) ≤ (di : Int) + 1) = b := ⟨_, rfl⟩
        obtain ⟨c2, hc2⟩ : ∃ b, decide ((s.size : Int) < (dn : Int)) = b := ⟨_, rfl⟩
        have hc2n : decide (s.size < dn) = c2 := by rw [← hc2, decide_eq_decide]; omega
        have HRec := Aside0.mk (show R = recsA (f + 1) s p l from HR.out.symm)
        clear HR
        cases c1 with
        | true =>
          have HF := Aside0.mk (show R = (p, l) from by
            rw [HRec.out]
            unfold recsA
            rw [if_neg h0, HD.out, if_pos (.inl (by have := of_decide_eq_true hc1; omega))])
          go_wp2_with fail
          go_ret2
          rw [HF.out]
          exact ⟨rfl, Below.refl _ _⟩
        | false =>
          cases c2 with
          | true =>
            have HF := Aside0.mk (show R = (p, l) from by
              rw [HRec.out]
              unfold recsA
              rw [if_neg h0, HD.out, if_pos (.inr (by have := of_decide_eq_true hc2; omega))])
            go_wp2_with fail
            go_ret2
            rw [HF.out]
            exact ⟨rfl, Below.refl _ _⟩
          | false =>
            have hn1 : di + 1 < dn := by have := of_decide_eq_false hc1; omega
            have hn2 : dn ≤ s.size := by have := of_decide_eq_false hc2; omega
            have hsub : (dn : Int) - 1 = ((dn - 1 : Nat) : Int) := by omega
            obtain ⟨E, hE⟩ : ∃ E, s.extract (di + 1) (dn - 1) = E := ⟨_, rfl⟩
            have hEs : E.size = min (dn - 1) s.size - (di + 1) := by rw [← hE, ByteArray.size_extract]
            have HF := Aside0.mk (show R = recsA f (s.extract dn s.size) (if E.extract 0 5 = pathE then E.extract 5 E.size else p) (if E.extract 0 9 = linkE then E.extract 9 E.size else l) from by
              rw [HRec.out]
              conv => lhs; unfold recsA
              rw [if_neg h0, HD.out]
              dsimp only
              rw [if_neg (by omega), hE])
            have HA5 := Aside0.mk (fun (h : (((s.extract (di + 1) (dn - 1)).extract 0 5).toList == [112, 97, 116, 104, 61]) = true) => show (if E.extract 0 5 = pathE then E.extract 5 E.size else p) = (s.extract (di + 1) (dn - 1)).extract 5 (min (dn - 1) s.size - (di + 1)) from by
              rw [hE] at h ⊢
              rw [← hEs, if_pos (toList_inj.1 ((beq_iff_eq.1 h).trans pathE_list.symm))])
            have HB5 := Aside0.mk (fun (h : (((s.extract (di + 1) (dn - 1)).extract 0 5).toList == [112, 97, 116, 104, 61]) = false) => show (if E.extract 0 5 = pathE then E.extract 5 E.size else p) = p from by
              rw [hE] at h
              rw [if_neg (fun e => (beq_eq_false_iff_ne.1 h) (by rw [e, pathE_list]))])
            have HC5 := Aside0.mk (fun (h : ¬ (5 : Int) ≤ ((min (dn - 1) s.size - (di + 1) : Nat) : Int)) => show (if E.extract 0 5 = pathE then E.extract 5 E.size else p) = p from by
              rw [← hEs] at h
              rw [if_neg (fun e => by
                have h2 := congrArg ByteArray.size e
                rw [ByteArray.size_extract] at h2
                have h3 : pathE.size = 5 := rfl
                omega)])
            have HA9 := Aside0.mk (fun (h : (((s.extract (di + 1) (dn - 1)).extract 0 9).toList == [108, 105, 110, 107, 112, 97, 116, 104, 61]) = true) => show (if E.extract 0 9 = linkE then E.extract 9 E.size else l) = (s.extract (di + 1) (dn - 1)).extract 9 (min (dn - 1) s.size - (di + 1)) from by
              rw [hE] at h ⊢
              rw [← hEs, if_pos (toList_inj.1 ((beq_iff_eq.1 h).trans linkE_list.symm))])
            have HB9 := Aside0.mk (fun (h : (((s.extract (di + 1) (dn - 1)).extract 0 9).toList == [108, 105, 110, 107, 112, 97, 116, 104, 61]) = false) => show (if E.extract 0 9 = linkE then E.extract 9 E.size else l) = l from by
              rw [hE] at h
              rw [if_neg (fun e => (beq_eq_false_iff_ne.1 h) (by rw [e, linkE_list]))])
            have HC9 := Aside0.mk (fun (h : ¬ (9 : Int) ≤ ((min (dn - 1) s.size - (di + 1) : Nat) : Int)) => show (if E.extract 0 9 = linkE then E.extract 9 E.size else l) = l from by
              rw [← hEs] at h
              rw [if_neg (fun e => by
                have h2 := congrArg ByteArray.size e
                rw [ByteArray.size_extract] at h2
                have h3 : linkE.size = 9 := rfl
                omega)])
            clear hE hEs
            have hxs : (s.extract dn s.size).size = s.size - dn := by rw [ByteArray.size_extract]; omega
            have HXS := Aside0.mk hxs
            clear hxs
            go_wp2_with fail
            all_goals
              refine ⟨⟨_, _, _, f, rfl, rfl, rfl, by rw [HXS.out]; omega, by rw [HXS.out]; omega, ⟨?_⟩, ⟨trivial⟩⟩, by simp only [strLen]; rw [HXS.out]; omega⟩
              rw [HF.out]
              first | rw [HA5.out (by with_reducible assumption)] | rw [HB5.out (by with_reducible assumption)] | rw [HC5.out (by with_reducible assumption)]
              first | rw [HA9.out (by with_reducible assumption)] | rw [HB9.out (by with_reducible assumption)] | rw [HC9.out (by with_reducible assumption)]
end Go.Proofs.YtdijnmcfpbceaaaGreatDoor.X

namespace Go.Proofs.YtdijnmcfpbceaaaGreatDoor.P
open Go.Proofs.YtdijnmcfpbceaaaGreatDoor.X
open Go.RowKit Go.Proofs.YtdijnmcfpbceaaaGreatDoorW.PrintWords Go.Proofs.YtdijnmcfpbceaaaGreatDoorW.PrintLast Go.Proofs.YtdijnmcfpbceaaaGreatDoorW.PrintMore
attribute [local go_sem] min2_int min_two
set_option linter.unusedVariables false
set_option linter.unusedSimpArgs false
def hogsheadref1_Cut.l0 : Nat → ByteArray → List ByteArray → Int → Int → Option (List ByteArray)
 | 0, _, _, _, _ => none
 | k + 1, x0, x3, x4, x5 => if x5 ≤ (x0.size : Int) then (if x5 = (x0.size : Int) then (if 0 ≤ x4 then (if x4 ≤ x5 then (if x3.length < 8796093022208 then (hogsheadref1_Cut.l0 k x0 (x3 ++ [x0.extract (x4 : Int).toNat (x5 : Int).toNat]) (wrap64 (x5 + 1)) (wrap64 (x5 + 1))) else (none)) else (none)) else (none)) else (if 0 ≤ x5 then (if x5 < (x0.size : Int) then (if (bt x0 x5) = 47 then (if 0 ≤ x4 then (if x4 ≤ x5 then (if x3.length < 8796093022208 then (hogsheadref1_Cut.l0 k x0 (x3 ++ [x0.extract (x4 : Int).toNat (x5 : Int).toNat]) (wrap64 (x5 + 1)) (wrap64 (x5 + 1))) else (none)) else (none)) else (none)) else (hogsheadref1_Cut.l0 k x0 x3 x4 (wrap64 (x5 + 1)))) else (none)) else (none))) else (some x3)
def hogsheadref1_Cut.f (k : Nat) (a0 : ByteArray) : Option (List ByteArray) := hogsheadref1_Cut.l0 k a0 ([] : List ByteArray) 0 0
set_option maxHeartbeats 8000000 in
set_option maxRecDepth 100000 in
theorem hogsheadref1_Cut.calls (k : Nat) (a0 : ByteArray) (r : List ByteArray) (w : World) (h : hogsheadref1_Cut.f k a0 = some r) :
  Calls Tryz.prog 105 #[.string a0] w fun e w' => ∃ v0_ : Value, e = .returned (v0_) ∧ Kd.R Kd.string 9 w' w.heap.size (fun _ => True) v0_ r ∧ Below w.heap.size w w' := by
 have HB := Aside0.mk (Below.refl w.heap.size w)
 have H : (hogsheadref1_Cut.l0 k a0 ([] : List ByteArray) 0 0) = some r := h
 clear h
 have H' := Aside0.mk H
 clear H
 go_enter Tryz.func105, Tryz.ntmps105
 go_wp2
 go_loopg [3, 4, 5] k (fun kq v3 v4 v5 w' => ∃ (x3_1 : List ByteArray) (x4_1 : Int) (x5_1 : Int), v4 = .int .i64 x4_1 ∧ v5 = .int .i64 x5_1 ∧ Aside0 (hogsheadref1_Cut.l0 kq a0 x3_1 x4_1 x5_1 = some r) ∧ Aside0 (kq ≤ k) ∧ Aside0 (Kd.R Kd.string 9 w' w.heap.size (fun _ => True) v3 x3_1) ∧ Aside0 (Below w.heap.size w w'))
 case atStart => exact ⟨(([] : List ByteArray)), (0), (0), (by first | rfl | (simp; done) | (simp [*]; done) | exact congrArg Value.bool (nil_ne _) | exact congrArg Value.bool (nil_eq _) | exact congrArg Value.bool (nil_ne' _)), (by first | rfl | (simp; done) | (simp [*]; done) | exact congrArg Value.bool (nil_ne _) | exact congrArg Value.bool (nil_eq _) | exact congrArg Value.bool (nil_ne' _)), H', ⟨Nat.le_refl _⟩, ⟨by first | exact Kd.R_nil _ _ _ _ _ | exact Kd.N_nil _ _ _ _ _ | exact Kd.V_nil _ _ _ _ _ | exact Kd.Q_nil _ _ _ _ _ | exact Kd.S_nil _ _ _ _ _⟩, ⟨by repeat (first | (with_reducible first | exact HB.out | apply below_alloc | apply pw_below_drewN | apply below_drew1) | exact HB.out)⟩⟩
 case round =>
  clear H'
  try clear c1
  obtain ⟨x3_1, x4_1, x5_1, rfl, rfl, HA, HK1, HO_3, HB⟩ := hrel
  cases gk with
  | zero => exact absurd HA.out (by simp [hogsheadref1_Cut.l0])
  | succ k1 =>
   have H := HA.out
   clear HA
   simp only [hogsheadref1_Cut.l0] at H
   by_cases c2 : x5_1 ≤ (a0.size : Int)
   ·rw [if_pos c2] at H
    have c2b0 : decide (x5_1 ≤ (a0.size : Int)) = true := decide_eq_true c2
    clear c2
    by_cases c3 : x5_1 = (a0.size : Int)
    ·rw [if_pos c3] at H
     have c3b0 : (x5_1 == (a0.size : Int)) = true := beq_iff_eq.mpr c3
     have c3b1 : (x5_1 != (a0.size : Int)) = false := bne_eq_false_iff_eq.mpr c3
     clear c3
     by_cases c4 : 0 ≤ x4_1
     ·rw [if_pos c4] at H
      have c4b0 := eq_true c4
      have c4b1 : decide (0 ≤ x4_1) = true := decide_eq_true c4
      clear c4
      by_cases c5 : x4_1 ≤ x5_1
      ·rw [if_pos c5] at H
       have c5b0 := eq_true c5
       have c5b1 : decide (x4_1 ≤ x5_1) = true := decide_eq_true c5
       clear c5
       have c6b0 := eq_true (of_decide_eq_true (by first | (with_reducible assumption) | assumption) : x5_1 ≤ (a0.size : Int))
       by_cases c7 : x3_1.length < 8796093022208
       ·rw [if_pos c7] at H
        have LMc7 := Aside0.mk c7
        clear c7
        obtain ⟨y115, hy115⟩ : ∃ y_ : List ByteArray, y_ = (x3_1 ++ [a0.extract (x4_1 : Int).toNat (x5_1 : Int).toNat]) := ⟨_, rfl⟩
        replace H : (hogsheadref1_Cut.l0 k1 a0 y115 (wrap64 (x5_1 + 1)) (wrap64 (x5_1 + 1))) = some r := by first | (rw [hy115]; with_reducible exact H) | (have H2_ := (Option.bind_some _ _).symm.trans H; rw [hy115]; with_reducible exact H2_) | (have H2_ := (Option.bind_some _ _).symm.trans H; with_reducible exact H2_) | with_reducible exact H | (rw [hy115]; exact H) | exact H
        have Ny115 := Aside0.mk hy115
        clear hy115
        have H' := Aside0.mk H
        clear H
        go_wp2_with (first | ((with_reducible refine gate_builtin (b := .append) (xs := #[.tmp 22, .tmp 27]) rfl ?_); at_builtin; refine Kd.R_append Kd.string (w0 := w) w.heap.size rfl (.tmp 22) (.tmp 27) 43 9 (.string ⟨#[]⟩) 16 rfl Tryz.underlying43 info9 rfl (by decide) (by omega) u3 x3_1 (a0.extract (x4_1 : Int).toNat (x5_1 : Int).toNat) [.string (a0.extract (x4_1 : Int).toNat (x5_1 : Int).toNat)] (fun _ => True) (fun _ => False) rfl rfl ?aP (fun _ hk => hk.elim) ?aF ?aO ?aB ?aS ?aL ?_; (case aP => exact rfl); (case aB => exact (by repeat (first | (with_reducible first | exact HB.out | apply below_alloc | apply pw_below_drewN | apply below_drew1) | exact HB.out))); (case aF => exact (fun _ _ => trivial)); (case aO => exact (by (with_reducible repeat (first | apply Kd.R_alloc | apply Kd.R_drewN | apply Kd.R_drew)); exact HO_3.out)); (case aS => exact (below_size (by repeat (first | (with_reducible first | exact HB.out | apply below_alloc | apply pw_below_drewN | apply below_drew1) | exact HB.out)))); (case aL => have := LMc7.out; omega); intro v116 w8 ho hb hg hat; rw [← Ny115.out] at ho; have n0_ := Aside0.mk (hb); have n1_ := Aside0.mk (ho); clear HB; clear HO_3; have HB := n0_; have HO117 := n1_; clear n0_ n1_; clear ho hb hg hat))
        go_roundg k1
        case measure => have := HK1.out; omega
        case rel => exact ⟨(y115), (wrap64 (x5_1 + 1)), (wrap64 (x5_1 + 1)), (by first | rfl | (simp; done) | (simp [*]; done) | exact congrArg Value.bool (nil_ne _) | exact congrArg Value.bool (nil_eq _) | exact congrArg Value.bool (nil_ne' _)), (by first | rfl | (simp; done) | (simp [*]; done) | exact congrArg Value.bool (nil_ne _) | exact congrArg Value.bool (nil_eq _) | exact congrArg Value.bool (nil_ne' _)), H', ⟨by have := HK1.out; omega⟩, ⟨by (with_reducible repeat (first | apply Kd.R_alloc | apply Kd.R_drewN | apply Kd.R_drew)); exact HO117.out⟩, ⟨by repeat (first | (with_reducible first | exact HB.out | apply below_alloc | apply pw_below_drewN | apply below_drew1) | exact HB.out)⟩⟩
       ·rw [if_neg c7] at H
        exact absurd H (by simp)
      ·rw [if_neg c5] at H
       exact absurd H (by simp)
     ·rw [if_neg c4] at H
      exact absurd H (by simp)
    ·rw [if_neg c3] at H
     have c3b0 : (x5_1 == (a0.size : Int)) = false := beq_eq_false_iff_ne.mpr c3
     have c3b1 : (x5_1 != (a0.size : Int)) = true := bne_iff_ne.mpr c3
     by_cases c9 : 0 ≤ x5_1
     ·rw [if_pos c9] at H
      have c9b0 : decide (0 ≤ x5_1) = true := decide_eq_true c9
      clear c9
      by_cases c10 : x5_1 < (a0.size : Int)
      ·rw [if_pos c10] at H
       have c10b0 : decide (x5_1 < (a0.size : Int)) = true := decide_eq_true c10
       clear c10
       by_cases c12 : (bt a0 x5_1) = 47
       ·rw [if_pos c12] at H
        have c12b0 : ((bt a0 x5_1) == 47) = true := beq_iff_eq.mpr c12
        have c12b1 : ((bt a0 x5_1) != 47) = false := bne_eq_false_iff_eq.mpr c12
        clear c12
        by_cases c13 : 0 ≤ x4_1
        ·rw [if_pos c13] at H
         have c13b0 := eq_true c13
         have c13b1 : decide (0 ≤ x4_1) = true := decide_eq_true c13
         clear c13
         by_cases c14 : x4_1 ≤ x5_1
         ·rw [if_pos c14] at H
          have c14b0 := eq_true c14
          have c14b1 : decide (x4_1 ≤ x5_1) = true := decide_eq_true c14
          clear c14
          have c15b0 := eq_true (of_decide_eq_true (by first | (with_reducible assumption) | assumption) : x5_1 ≤ (a0.size : Int))
          by_cases c16 : x3_1.length < 8796093022208
          ·rw [if_pos c16] at H
           have LMc16 := Aside0.mk c16
           clear c16
           obtain ⟨y118, hy118⟩ : ∃ y_ : List ByteArray, y_ = (x3_1 ++ [a0.extract (x4_1 : Int).toNat (x5_1 : Int).toNat]) := ⟨_, rfl⟩
           replace H : (hogsheadref1_Cut.l0 k1 a0 y118 (wrap64 (x5_1 + 1)) (wrap64 (x5_1 + 1))) = some r := by first | (rw [hy118]; with_reducible exact H) | (have H2_ := (Option.bind_some _ _).symm.trans H; rw [hy118]; with_reducible exact H2_) | (have H2_ := (Option.bind_some _ _).symm.trans H; with_reducible exact H2_) | with_reducible exact H | (rw [hy118]; exact H) | exact H
           have Ny118 := Aside0.mk hy118
           clear hy118
           have H' := Aside0.mk H
           clear H
           have p11 : 0 ≤ (x5_1 : Int) := of_decide_eq_true (by first | (with_reducible assumption) | assumption)
           have q11 : x5_1 < (a0.size : Int) := of_decide_eq_true (by first | (with_reducible assumption) | assumption)
           have hx11 := bt_at a0 x5_1
           replace p11 := eq_true p11
           replace q11 := eq_true q11
           go_wp2_with (first | ((with_reducible refine gate_builtin (b := .append) (xs := #[.tmp 22, .tmp 27]) rfl ?_); at_builtin; refine Kd.R_append Kd.string (w0 := w) w.heap.size rfl (.tmp 22) (.tmp 27) 43 9 (.string ⟨#[]⟩) 16 rfl Tryz.underlying43 info9 rfl (by decide) (by omega) u3 x3_1 (a0.extract (x4_1 : Int).toNat (x5_1 : Int).toNat) [.string (a0.extract (x4_1 : Int).toNat (x5_1 : Int).toNat)] (fun _ => True) (fun _ => False) rfl rfl ?aP (fun _ hk => hk.elim) ?aF ?aO ?aB ?aS ?aL ?_; (case aP => exact rfl); (case aB => exact (by repeat (first | (with_reducible first | exact HB.out | apply below_alloc | apply pw_below_drewN | apply below_drew1) | exact HB.out))); (case aF => exact (fun _ _ => trivial)); (case aO => exact (by (with_reducible repeat (first | apply Kd.R_alloc | apply Kd.R_drewN | apply Kd.R_drew)); exact HO_3.out)); (case aS => exact (below_size (by repeat (first | (with_reducible first | exact HB.out | apply below_alloc | apply pw_below_drewN | apply below_drew1) | exact HB.out)))); (case aL => have := LMc16.out; omega); intro v119 w17 ho hb hg hat; rw [← Ny118.out] at ho; have n0_ := Aside0.mk (hb); have n1_ := Aside0.mk (ho); clear HB; clear HO_3; have HB := n0_; have HO120 := n1_; clear n0_ n1_; clear ho hb hg hat))
           go_roundg k1
           case measure => have := HK1.out; omega
           case rel => exact ⟨(y118), (wrap64 (x5_1 + 1)), (wrap64 (x5_1 + 1)), (by first | rfl | (simp; done) | (simp [*]; done) | exact congrArg Value.bool (nil_ne _) | exact congrArg Value.bool (nil_eq _) | exact congrArg Value.bool (nil_ne' _)), (by first | rfl | (simp; done) | (simp [*]; done) | exact congrArg Value.bool (nil_ne _) | exact congrArg Value.bool (nil_eq _) | exact congrArg Value.bool (nil_ne' _)), H', ⟨by have := HK1.out; omega⟩, ⟨by (with_reducible repeat (first | apply Kd.R_alloc | apply Kd.R_drewN | apply Kd.R_drew)); exact HO120.out⟩, ⟨by repeat (first | (with_reducible first | exact HB.out | apply below_alloc | apply pw_below_drewN | apply below_drew1) | exact HB.out)⟩⟩
          ·rw [if_neg c16] at H
           exact absurd H (by simp)
         ·rw [if_neg c14] at H
          exact absurd H (by simp)
        ·rw [if_neg c13] at H
         exact absurd H (by simp)
       ·rw [if_neg c12] at H
        have c12b0 : ((bt a0 x5_1) == 47) = false := beq_eq_false_iff_ne.mpr c12
        have c12b1 : ((bt a0 x5_1) != 47) = true := bne_iff_ne.mpr c12
        have H' := Aside0.mk H
        clear H
        have p11 : 0 ≤ (x5_1 : Int) := of_decide_eq_true (by first | (with_reducible assumption) | assumption)
        have q11 : x5_1 < (a0.size : Int) := of_decide_eq_true (by first | (with_reducible assumption) | assumption)
        have hx11 := bt_at a0 x5_1
        replace p11 := eq_true p11
        replace q11 := eq_true q11
        go_wp2
        go_roundg k1
        case measure => have := HK1.out; omega
        case rel => exact ⟨(x3_1), (x4_1), (wrap64 (x5_1 + 1)), (by first | rfl | (simp; done) | (simp [*]; done) | exact congrArg Value.bool (nil_ne _) | exact congrArg Value.bool (nil_eq _) | exact congrArg Value.bool (nil_ne' _)), (by first | rfl | (simp; done) | (simp [*]; done) | exact congrArg Value.bool (nil_ne _) | exact congrArg Value.bool (nil_eq _) | exact congrArg Value.bool (nil_ne' _)), H', ⟨by have := HK1.out; omega⟩, ⟨by (with_reducible repeat (first | apply Kd.R_alloc | apply Kd.R_drewN | apply Kd.R_drew)); exact HO_3.out⟩, ⟨by repeat (first | (with_reducible first | exact HB.out | apply below_alloc | apply pw_below_drewN | apply below_drew1) | exact HB.out)⟩⟩
      ·rw [if_neg c10] at H
       exact absurd H (by simp)
     ·rw [if_neg c9] at H
      exact absurd H (by simp)
   ·rw [if_neg c2] at H
    have c2b0 : decide (x5_1 ≤ (a0.size : Int)) = false := decide_eq_false c2
    clear c2
    obtain rfl := Option.some.inj H
    go_wp2
    go_ret
    exact ⟨_, by first | rfl | (simp [errW_none, errW_some] <;> rfl) | (simp [*, errW_none, errW_some] <;> rfl), by (with_reducible repeat (first | apply Kd.R_alloc | apply Kd.R_drewN | apply Kd.R_drew)); exact HO_3.out, by repeat (first | (with_reducible first | exact HB.out | apply below_alloc | apply pw_below_drewN | apply below_drew1) | exact HB.out)⟩
end Go.Proofs.YtdijnmcfpbceaaaGreatDoor.P

namespace Go.Proofs.YtdijnmcfpbceaaaGreatDoor.P
open Go.Proofs.YtdijnmcfpbceaaaGreatDoor.X
open Go.RowKit Go.Proofs.YtdijnmcfpbceaaaGreatDoorW.PrintWords Go.Proofs.YtdijnmcfpbceaaaGreatDoorW.PrintLast Go.Proofs.YtdijnmcfpbceaaaGreatDoorW.PrintMore
attribute [local go_sem] min2_int min_two
set_option linter.unusedVariables false
set_option linter.unusedSimpArgs false
def hogsheadref1_Part.l0 : Nat → ByteArray → Int → Option (Bool)
 | 0, _, _ => none
 | k + 1, x0, x3 => if x3 < (x0.size : Int) then (if 0 ≤ x3 then (if (bt x0 x3) = 47 then (some false) else (if (bt x0 x3) = 0 then (some false) else (hogsheadref1_Part.l0 k x0 (wrap64 (x3 + 1))))) else (none)) else (if (x0.size : Int) ≥ 1 then (if (x0.size : Int) ≤ 60 then (if x0.toList = ([46] : List UInt8) then (some false) else (if x0.toList = ([46, 46] : List UInt8) then (some false) else (if (x0.size : Int) ≥ 4 then (if 0 ≤ 4 then (if 4 ≤ (x0.size : Int) then (some (!((x0.extract 0 4).toList == ([46, 119, 104, 46] : List UInt8)))) else (none)) else (none)) else (some (!false))))) else (some false)) else (some false))
def hogsheadref1_Part.f (k : Nat) (a0 : ByteArray) : Option (Bool) := hogsheadref1_Part.l0 k a0 0
set_option maxHeartbeats 8000000 in
set_option maxRecDepth 100000 in
theorem hogsheadref1_Part.calls (k : Nat) (a0 : ByteArray) (r : Bool) (w : World) (h : hogsheadref1_Part.f k a0 = some r) :
  Calls Tryz.prog 106 #[.string a0] w fun e w' => e = .returned (.bool r) ∧ Drawn0 w w' := by
 have H : (hogsheadref1_Part.l0 k a0 0) = some r := h
 clear h
 have H' := Aside0.mk H
 clear H
 go_enter Tryz.func106, Tryz.ntmps106
 go_wp2
 go_loopg [3] k (fun kq v3 w' => ∃ (x3_1 : Int), v3 = .int .i64 x3_1 ∧ Aside0 (hogsheadref1_Part.l0 kq a0 x3_1 = some r) ∧ Aside0 (kq ≤ k) ∧ Drawn0 w w')
 case atStart => exact ⟨(0), (by first | rfl | (simp; done) | (simp [*]; done) | exact congrArg Value.bool (nil_ne _) | exact congrArg Value.bool (nil_eq _) | exact congrArg Value.bool (nil_ne' _)), H', ⟨Nat.le_refl _⟩, by repeat (first | exact Drawn0.refl _ | apply Drawn0.step)⟩
 case round =>
  clear H'
  try clear c1
  obtain ⟨x3_1, rfl, HA, HK1, ⟨m1, rfl⟩⟩ := hrel
  cases gk with
  | zero => exact absurd HA.out (by simp [hogsheadref1_Part.l0])
  | succ k1 =>
   have H := HA.out
   clear HA
   simp only [hogsheadref1_Part.l0] at H
   by_cases c2 : x3_1 < (a0.size : Int)
   ·rw [if_pos c2] at H
    have c2b0 : decide (x3_1 < (a0.size : Int)) = true := decide_eq_true c2
    clear c2
    by_cases c3 : 0 ≤ x3_1
    ·rw [if_pos c3] at H
     have c3b0 : decide (0 ≤ x3_1) = true := decide_eq_true c3
     clear c3
     by_cases c5 : (bt a0 x3_1) = 47
     ·rw [if_pos c5] at H
      have c5b0 : ((bt a0 x3_1) == 47) = true := beq_iff_eq.mpr c5
      have c5b1 : ((bt a0 x3_1) != 47) = false := bne_eq_false_iff_eq.mpr c5
      clear c5
      obtain rfl := Option.some.inj H
      have p4 : 0 ≤ (x3_1 : Int) := of_decide_eq_true (by first | (with_reducible assumption) | assumption)
      have q4 : x3_1 < (a0.size : Int) := of_decide_eq_true (by first | (with_reducible assumption) | assumption)
      have hx4 := bt_at a0 x3_1
      replace p4 := eq_true p4
      replace q4 := eq_true q4
      go_wp2
      go_ret
      exact ⟨by first | rfl | (simp; done) | (simp [*]; done), by repeat (first | exact Drawn0.refl _ | apply Drawn0.step)⟩
     ·rw [if_neg c5] at H
      have c5b0 : ((bt a0 x3_1) == 47) = false := beq_eq_false_iff_ne.mpr c5
      have c5b1 : ((bt a0 x3_1) != 47) = true := bne_iff_ne.mpr c5
      by_cases c7 : (bt a0 x3_1) = 0
      ·rw [if_pos c7] at H
       have c7b0 : ((bt a0 x3_1) == 0) = true := beq_iff_eq.mpr c7
       have c7b1 : ((bt a0 x3_1) != 0) = false := bne_eq_false_iff_eq.mpr c7
       clear c7
       obtain rfl := Option.some.inj H
       have p4 : 0 ≤ (x3_1 : Int) := of_decide_eq_true (by first | (with_reducible assumption) | assumption)
       have q4 : x3_1 < (a0.size : Int) := of_decide_eq_true (by first | (with_reducible assumption) | assumption)
       have hx4 := bt_at a0 x3_1
       replace p4 := eq_true p4
       replace q4 := eq_true q4
       have p6 : 0 ≤ (x3_1 : Int) := of_decide_eq_true (by first | (with_reducible assumption) | assumption)
       have q6 : x3_1 < (a0.size : Int) := of_decide_eq_true (by first | (with_reducible assumption) | assumption)
       have hx6 := bt_at a0 x3_1
       replace p6 := eq_true p6
       replace q6 := eq_true q6
       go_wp2
       go_ret
       exact ⟨by first | rfl | (simp; done) | (simp [*]; done), by repeat (first | exact Drawn0.refl _ | apply Drawn0.step)⟩
      ·rw [if_neg c7] at H
       have c7b0 : ((bt a0 x3_1) == 0) = false := beq_eq_false_iff_ne.mpr c7
       have c7b1 : ((bt a0 x3_1) != 0) = true := bne_iff_ne.mpr c7
       have H' := Aside0.mk H
       clear H
       have p4 : 0 ≤ (x3_1 : Int) := of_decide_eq_true (by first | (with_reducible assumption) | assumption)
       have q4 : x3_1 < (a0.size : Int) := of_decide_eq_true (by first | (with_reducible assumption) | assumption)
       have hx4 := bt_at a0 x3_1
       replace p4 := eq_true p4
       replace q4 := eq_true q4
       have p6 : 0 ≤ (x3_1 : Int) := of_decide_eq_true (by first | (with_reducible assumption) | assumption)
       have q6 : x3_1 < (a0.size : Int) := of_decide_eq_true (by first | (with_reducible assumption) | assumption)
       have hx6 := bt_at a0 x3_1
       replace p6 := eq_true p6
       replace q6 := eq_true q6
       go_wp2
       go_roundg k1
       case measure => have := HK1.out; omega
       case rel => exact ⟨(wrap64 (x3_1 + 1)), (by first | rfl | (simp; done) | (simp [*]; done) | exact congrArg Value.bool (nil_ne _) | exact congrArg Value.bool (nil_eq _) | exact congrArg Value.bool (nil_ne' _)), H', ⟨by have := HK1.out; omega⟩, by repeat (first | exact Drawn0.refl _ | apply Drawn0.step)⟩
    ·rw [if_neg c3] at H
     exact absurd H (by simp)
   ·rw [if_neg c2] at H
    have c2b0 : decide (x3_1 < (a0.size : Int)) = false := decide_eq_false c2
    clear c2
    by_cases c8 : (a0.size : Int) ≥ 1
    ·rw [if_pos c8] at H
     have c8b0 : decide (1 ≤ (a0.size : Int)) = true := decide_eq_true c8
     have c8b1 : decide (1 ≤ a0.size) = true := decide_eq_true (by omega)
     clear c8
     by_cases c9 : (a0.size : Int) ≤ 60
     ·rw [if_pos c9] at H
      have c9b0 : decide ((a0.size : Int) ≤ 60) = true := decide_eq_true c9
      have c9b1 : decide (a0.size ≤ 60) = true := decide_eq_true (by omega)
      clear c9
      by_cases c10 : a0.toList = ([46] : List UInt8)
      ·rw [if_pos c10] at H
       have c10b0 : (a0.toList == ([46] : List UInt8)) = true := beq_iff_eq.mpr c10
       have c10b1 : (a0.toList != ([46] : List UInt8)) = false := bne_eq_false_iff_eq.mpr c10
       clear c10
       obtain rfl := Option.some.inj H
       go_wp2
       go_ret
       exact ⟨by first | rfl | (simp; done) | (simp [*]; done), by repeat (first | exact Drawn0.refl _ | apply Drawn0.step)⟩
      ·rw [if_neg c10] at H
       have c10b0 : (a0.toList == ([46] : List UInt8)) = false := beq_eq_false_iff_ne.mpr c10
       have c10b1 : (a0.toList != ([46] : List UInt8)) = true := bne_iff_ne.mpr c10
       by_cases c11 : a0.toList = ([46, 46] : List UInt8)
       ·rw [if_pos c11] at H
        have c11b0 : (a0.toList == ([46, 46] : List UInt8)) = true := beq_iff_eq.mpr c11
        have c11b1 : (a0.toList != ([46, 46] : List UInt8)) = false := bne_eq_false_iff_eq.mpr c11
        clear c11
        obtain rfl := Option.some.inj H
        go_wp2
        go_ret
        exact ⟨by first | rfl | (simp; done) | (simp [*]; done), by repeat (first | exact Drawn0.refl _ | apply Drawn0.step)⟩
       ·rw [if_neg c11] at H
        have c11b0 : (a0.toList == ([46, 46] : List UInt8)) = false := beq_eq_false_iff_ne.mpr c11
        have c11b1 : (a0.toList != ([46, 46] : List UInt8)) = true := bne_iff_ne.mpr c11
        by_cases c12 : (a0.size : Int) ≥ 4
        ·rw [if_pos c12] at H
         have c12b0 : decide (4 ≤ (a0.size : Int)) = true := decide_eq_true c12
         have c12b1 : decide (4 ≤ a0.size) = true := decide_eq_true (by omega)
         clear c12
         by_cases c13 : 0 ≤ 4
         ·rw [if_pos c13] at H
          have c13b0 := eq_true c13
          have c13b1 : decide (0 ≤ 4) = true := decide_eq_true c13
          clear c13
          by_cases c14 : 4 ≤ (a0.size : Int)
          ·rw [if_pos c14] at H
           have c14b0 := eq_true c14
           have c14b1 : decide (4 ≤ (a0.size : Int)) = true := decide_eq_true c14
           clear c14
           obtain rfl := Option.some.inj H
           go_wp2
           go_ret
           exact ⟨by first | rfl | (simp; done) | (simp [*]; done), by repeat (first | exact Drawn0.refl _ | apply Drawn0.step)⟩
          ·rw [if_neg c14] at H
           exact absurd H (by simp)
         ·rw [if_neg c13] at H
          exact absurd H (by simp)
        ·rw [if_neg c12] at H
         have c12b0 : decide (4 ≤ (a0.size : Int)) = false := decide_eq_false c12
         have c12b1 : decide (4 ≤ a0.size) = false := decide_eq_false (by omega)
         clear c12
         obtain rfl := Option.some.inj H
         go_wp2
         go_ret
         exact ⟨by first | rfl | (simp; done) | (simp [*]; done), by repeat (first | exact Drawn0.refl _ | apply Drawn0.step)⟩
     ·rw [if_neg c9] at H
      have c9b0 : decide ((a0.size : Int) ≤ 60) = false := decide_eq_false c9
      have c9b1 : decide (a0.size ≤ 60) = false := decide_eq_false (by omega)
      clear c9
      obtain rfl := Option.some.inj H
      go_wp2
      go_ret
      exact ⟨by first | rfl | (simp; done) | (simp [*]; done), by repeat (first | exact Drawn0.refl _ | apply Drawn0.step)⟩
    ·rw [if_neg c8] at H
     have c8b0 : decide (1 ≤ (a0.size : Int)) = false := decide_eq_false c8
     have c8b1 : decide (1 ≤ a0.size) = false := decide_eq_false (by omega)
     clear c8
     obtain rfl := Option.some.inj H
     go_wp2
     go_ret
     exact ⟨by first | rfl | (simp; done) | (simp [*]; done), by repeat (first | exact Drawn0.refl _ | apply Drawn0.step)⟩
end Go.Proofs.YtdijnmcfpbceaaaGreatDoor.P

namespace Go.Proofs.YtdijnmcfpbceaaaGreatDoor.P
open Go.Proofs.YtdijnmcfpbceaaaGreatDoor.X
open Go.RowKit Go.Proofs.YtdijnmcfpbceaaaGreatDoorW.PrintWords Go.Proofs.YtdijnmcfpbceaaaGreatDoorW.PrintLast Go.Proofs.YtdijnmcfpbceaaaGreatDoorW.PrintMore
attribute [local go_sem] min2_int min_two
set_option linter.unusedVariables false
set_option linter.unusedSimpArgs false
def hogsheadref1_May.l0 : Nat → List ByteArray → Int → Option (Bool)
 | 0, _, _ => none
 | k + 1, x3, x4 => if x4 < (x3.length : Int) then (if 0 ≤ x4 then ((hogsheadref1_Part.f k (rdOf ByteArray.empty x3 x4)).bind fun t125 => (if t125 = true then (hogsheadref1_May.l0 k x3 (wrap64 (x4 + 1))) else (some false))) else (none)) else (some (decide ((x3.length : Int) ≤ 10)))
def hogsheadref1_May.f (k : Nat) (a0 : ByteArray) : Option (Bool) := if a0.toList = ([] : List UInt8) then (some true) else (if (a0.size : Int) > 200 then (some false) else ((hogsheadref1_Cut.f k a0).bind fun t121 => (hogsheadref1_May.l0 k t121 0)))
set_option maxHeartbeats 8000000 in
set_option maxRecDepth 100000 in
theorem hogsheadref1_May.calls (k : Nat) (a0 : ByteArray) (r : Bool) (w : World) (h : hogsheadref1_May.f k a0 = some r) :
  Calls Tryz.prog 80 #[.string a0] w fun e w' => e = .returned (.bool r) ∧ Below w.heap.size w w' := by
 have HB := Aside0.mk (Below.refl w.heap.size w)
 have H : (if a0.toList = ([] : List UInt8) then (some true) else (if (a0.size : Int) > 200 then (some false) else ((hogsheadref1_Cut.f k a0).bind fun t121 => (hogsheadref1_May.l0 k t121 0)))) = some r := h
 clear h
 by_cases c2 : a0.toList = ([] : List UInt8)
 ·rw [if_pos c2] at H
  have c2b0 : (a0.toList == ([] : List UInt8)) = true := beq_iff_eq.mpr c2
  have c2b1 : (a0.toList != ([] : List UInt8)) = false := bne_eq_false_iff_eq.mpr c2
  clear c2
  obtain rfl := Option.some.inj H
  go_enter Tryz.func80, Tryz.ntmps80
  go_wp2
  go_ret
  exact ⟨by first | rfl | (simp [errW_none, errW_some] <;> rfl) | (simp [*, errW_none, errW_some] <;> rfl), by repeat (first | (with_reducible first | exact HB.out | apply below_alloc | apply pw_below_drewN | apply below_drew1) | exact HB.out)⟩
 ·rw [if_neg c2] at H
  have c2b0 : (a0.toList == ([] : List UInt8)) = false := beq_eq_false_iff_ne.mpr c2
  have c2b1 : (a0.toList != ([] : List UInt8)) = true := bne_iff_ne.mpr c2
  by_cases c3 : (a0.size : Int) > 200
  ·rw [if_pos c3] at H
   have c3b0 : decide (200 < (a0.size : Int)) = true := decide_eq_true c3
   have c3b1 : decide (200 < a0.size) = true := decide_eq_true (by omega)
   clear c3
   obtain rfl := Option.some.inj H
   go_enter Tryz.func80, Tryz.ntmps80
   go_wp2
   go_ret
   exact ⟨by first | rfl | (simp [errW_none, errW_some] <;> rfl) | (simp [*, errW_none, errW_some] <;> rfl), by repeat (first | (with_reducible first | exact HB.out | apply below_alloc | apply pw_below_drewN | apply below_drew1) | exact HB.out)⟩
  ·rw [if_neg c3] at H
   have c3b0 : decide (200 < (a0.size : Int)) = false := decide_eq_false c3
   have c3b1 : decide (200 < a0.size) = false := decide_eq_false (by omega)
   clear c3
   replace H := Option.bind_eq_some_iff.mp H
   obtain ⟨t121, A40, H⟩ := H
   replace H : (hogsheadref1_May.l0 k t121 0) = some r := H
   have A4 := Aside0.mk A40
   clear A40
   have H' := Aside0.mk H
   clear H
   go_enter Tryz.func80, Tryz.ntmps80
   go_wp2_with (first | ((with_reducible refine gate_callee (f := 105) rfl ?_); refine goesL_ (some 11) rfl rfl Tryz.func105 (by kernel_rfl) rfl #[.string a0] rfl (by (try simp only [List.map_toArray, List.map_cons, List.map_nil]); first | done | rfl | (simp only [List.length_drop, List.length_take]; rfl)) ?_; (with_reducible refine (hogsheadref1_Cut.calls k a0 t121 _ A4.out).mono ?_); rintro e w5 ⟨v122, rfl, ho0, hb⟩; refine ⟨_, rfl, ?_⟩; have n0_ := Aside0.mk (Kd.R_lower ho0 (below_size (by repeat (first | (with_reducible first | exact HB.out | apply below_alloc | apply pw_below_drewN | apply below_drew1) | exact HB.out)))); have n1_ := Aside0.mk (below_step (by repeat (first | (with_reducible first | exact HB.out | apply below_alloc | apply pw_below_drewN | apply below_drew1) | exact HB.out)) hb); clear HB; have HO123 := n0_; have HB := n1_; clear n0_ n1_; (try clear hb); (try clear hb2); (try clear hk); (try clear hi); (try clear ho0)))
   go_loopg [4] k (fun kq v4 w' => ∃ (x4_1 : Int), v4 = .int .i64 x4_1 ∧ Aside0 (hogsheadref1_May.l0 kq t121 x4_1 = some r) ∧ Aside0 (kq ≤ k) ∧ Aside0 (Kd.R Kd.string 9 w' w.heap.size (fun _ => True) v122 t121) ∧ Aside0 (Below w.heap.size w w'))
   case atStart => exact ⟨(0), (by first | rfl | (simp; done) | (simp [*]; done) | exact congrArg Value.bool (nil_ne _) | exact congrArg Value.bool (nil_eq _) | exact congrArg Value.bool (nil_ne' _)), H', ⟨Nat.le_refl _⟩, ⟨by (with_reducible repeat (first | apply Kd.R_alloc | apply Kd.R_drewN | apply Kd.R_drew)); exact HO123.out⟩, ⟨by repeat (first | (with_reducible first | exact HB.out | apply below_alloc | apply pw_below_drewN | apply below_drew1) | exact HB.out)⟩⟩
   case round =>
    clear H'
    try clear c1
    try clear c2
    try clear c2b0
    try clear c2b1
    try clear p2
    try clear c3
    try clear c3b0
    try clear c3b1
    obtain ⟨x4_1, rfl, HA, HK1, HO_3, HB⟩ := hrel
    cases gk with
    | zero => exact absurd HA.out (by simp [hogsheadref1_May.l0])
    | succ k1 =>
     have H := HA.out
     clear HA
     simp only [hogsheadref1_May.l0] at H
     by_cases c6 : x4_1 < (t121.length : Int)
     ·rw [if_pos c6] at H
      have c6b0 : decide (x4_1 < (t121.length : Int)) = true := decide_eq_true c6
      clear c6
      by_cases c7 : 0 ≤ x4_1
      ·rw [if_pos c7] at H
       have c7b0 : decide (0 ≤ x4_1) = true := decide_eq_true c7
       clear c7
       replace H := Option.bind_eq_some_iff.mp H
       obtain ⟨t125, A80, H⟩ := H
       replace H : (if t125 = true then (hogsheadref1_May.l0 k1 t121 (wrap64 (x4_1 + 1))) else (some false)) = some r := H
       have A8 := Aside0.mk A80
       clear A80
       by_cases c9 : t125 = true
       ·subst c9
        have H1 : (hogsheadref1_May.l0 k1 t121 (wrap64 (x4_1 + 1))) = some r := by rw [if_pos rfl] at H; exact H
        clear H
        have H := H1
        clear H1
        have H' := Aside0.mk H
        clear H
        obtain ⟨Ao10, co10, eo10⟩ := Kd.R_slice HO_3.out
        subst eo10
        have p124 : 0 ≤ (x4_1 : Int) := of_decide_eq_true (by first | (with_reducible assumption) | assumption)
        have q124 : x4_1 < (t121.length : Int) := of_decide_eq_true (by first | (with_reducible assumption) | assumption)
        obtain ⟨ad124, e124, hx124_0⟩ := Kd.at_string (Kd.R_reads' HO_3.out).2.2 x4_1 p124 q124
        cases e124
        replace p124 := eq_true p124
        replace q124 := eq_true q124
        go_wp2_with (first | ((with_reducible refine gate_callee (f := 106) rfl ?_); refine goesL_ (some 22) rfl rfl Tryz.func106 (by kernel_rfl) rfl #[.string (rdOf ByteArray.empty t121 x4_1)] rfl (by (try simp only [List.map_toArray, List.map_cons, List.map_nil]); first | done | rfl | (simp only [List.length_drop, List.length_take]; rfl)) ?_; (with_reducible refine (hogsheadref1_Part.calls k1 (rdOf ByteArray.empty t121 x4_1) true _ A8.out).mono ?_); rintro e w' ⟨rfl, ⟨nd, rfl⟩⟩; refine ⟨_, rfl, ?_⟩))
        go_roundg k1
        case measure => have := HK1.out; omega
        case rel => exact ⟨(wrap64 (x4_1 + 1)), (by first | rfl | (simp; done) | (simp [*]; done) | exact congrArg Value.bool (nil_ne _) | exact congrArg Value.bool (nil_eq _) | exact congrArg Value.bool (nil_ne' _)), H', ⟨by have := HK1.out; omega⟩, ⟨by (with_reducible repeat (first | apply Kd.R_alloc | apply Kd.R_drewN | apply Kd.R_drew)); exact HO_3.out⟩, ⟨by repeat (first | (with_reducible first | exact HB.out | apply below_alloc | apply pw_below_drewN | apply below_drew1) | exact HB.out)⟩⟩
       ·replace c9 := Bool.eq_false_iff.mpr c9
        subst c9
        have H1 : (some false) = some r := by rw [if_neg (show ¬ (false = true) by decide)] at H; exact H
        clear H
        have H := H1
        clear H1
        obtain rfl := Option.some.inj H
        obtain ⟨Ao11, co11, eo11⟩ := Kd.R_slice HO_3.out
        subst eo11
        have p124 : 0 ≤ (x4_1 : Int) := of_decide_eq_true (by first | (with_reducible assumption) | assumption)
        have q124 : x4_1 < (t121.length : Int) := of_decide_eq_true (by first | (with_reducible assumption) | assumption)
        obtain ⟨ad124, e124, hx124_0⟩ := Kd.at_string (Kd.R_reads' HO_3.out).2.2 x4_1 p124 q124
        cases e124
        replace p124 := eq_true p124
        replace q124 := eq_true q124
        go_wp2_with (first | ((with_reducible refine gate_callee (f := 106) rfl ?_); refine goesL_ (some 22) rfl rfl Tryz.func106 (by kernel_rfl) rfl #[.string (rdOf ByteArray.empty t121 x4_1)] rfl (by (try simp only [List.map_toArray, List.map_cons, List.map_nil]); first | done | rfl | (simp only [List.length_drop, List.length_take]; rfl)) ?_; (with_reducible refine (hogsheadref1_Part.calls k1 (rdOf ByteArray.empty t121 x4_1) false _ A8.out).mono ?_); rintro e w' ⟨rfl, ⟨nd, rfl⟩⟩; refine ⟨_, rfl, ?_⟩))
        go_ret
        exact ⟨by first | rfl | (simp [errW_none, errW_some] <;> rfl) | (simp [*, errW_none, errW_some] <;> rfl), by repeat (first | (with_reducible first | exact HB.out | apply below_alloc | apply pw_below_drewN | apply below_drew1) | exact HB.out)⟩
      ·rw [if_neg c7] at H
       exact absurd H (by simp)
     ·rw [if_neg c6] at H
      have c6b0 : decide (x4_1 < (t121.length : Int)) = false := decide_eq_false c6
      clear c6
      obtain rfl := Option.some.inj H
      obtain ⟨Ao12, co12, eo12⟩ := Kd.R_slice HO_3.out
      subst eo12
      go_wp2
      go_ret
      exact ⟨by first | rfl | (simp [errW_none, errW_some] <;> rfl) | (simp [*, errW_none, errW_some] <;> rfl), by repeat (first | (with_reducible first | exact HB.out | apply below_alloc | apply pw_below_drewN | apply below_drew1) | exact HB.out)⟩
end Go.Proofs.YtdijnmcfpbceaaaGreatDoor.P

namespace Go.Proofs.YtdijnmcfpbceaaaGreatDoor.X
open Go.RowKit Go.Proofs.YtdijnmcfpbceaaaGreatDoorW.PrintWords Go.Proofs.YtdijnmcfpbceaaaGreatDoorW.PrintLast Go.Proofs.YtdijnmcfpbceaaaGreatDoorW.PrintMore Go.Proofs.YtdijnmcfpbceaaaGreatDoor.P
set_option linter.unusedVariables false
set_option linter.unusedSimpArgs false
def endB (s : List UInt8) : Bool := decide (s ≠ []) && decide (s.length ≤ 60) && decide (s ≠ [46]) && decide (s ≠ [46, 46]) && !([46, 119, 104, 46] : List UInt8).isPrefixOf s
theorem part_end (s : List UInt8) : partB s = (decide ((47 : UInt8) ∉ s) && (decide ((0 : UInt8) ∉ s) && endB s)) := by
  unfold partB endB
  generalize decide (s ≠ []) = a
  generalize decide (s.length ≤ 60) = b
  generalize decide ((47 : UInt8) ∉ s) = c
  generalize decide ((0 : UInt8) ∉ s) = d
  generalize decide (s ≠ [46]) = e
  generalize decide (s ≠ [46, 46]) = f
  generalize (([46, 119, 104, 46] : List UInt8).isPrefixOf s) = g
  revert a b c d e f g
  decide
theorem prefix_take (p s : List UInt8) : p.isPrefixOf s = decide (s.take p.length = p) := by
  by_cases h : p <+: s
  · obtain ⟨t, rfl⟩ := h
    rw [List.take_left, decide_eq_true rfl]
    simp
  · have h1 : p.isPrefixOf s = false := by
      cases hb : p.isPrefixOf s with
      | false => rfl
      | true => exact absurd (List.isPrefixOf_iff_prefix.1 hb) h
    rw [h1, eq_comm, decide_eq_false_iff_not]
    intro e
    refine h ⟨s.drop p.length, ?_⟩
    have := List.take_append_drop p.length s
    rw [e] at this
    exact this
theorem part_tail (k : Nat) (s : ByteArray) (i : Int) (h : ¬ i < (s.size : Int)) : hogsheadref1_Part.l0 (k + 1) s i = some (endB s.data.toList) := by
  simp only [hogsheadref1_Part.l0]
  rw [if_neg h]
  unfold endB
  rw [prefix_take]
  have hl : s.data.toList.length = s.size := data_length s
  have hx : (s.extract 0 4).toList = s.data.toList.take 4 := by
    rw [ByteArray.toList_eq, ByteArray.data_extract, Array.toList_extract]
    simp [List.extract]
  rw [hx, ByteArray.toList_eq]
  generalize s.data.toList = l at *
  by_cases h1 : (s.size : Int) ≥ 1
  · rw [if_pos h1, decide_eq_true (show l ≠ [] from fun e => by rw [e] at hl; simp at hl; omega), Bool.true_and]
    by_cases h2 : (s.size : Int) ≤ 60
    · rw [if_pos h2, decide_eq_true (show l.length ≤ 60 by omega), Bool.true_and]
      by_cases h3 : l = [46]
      · rw [if_pos h3, decide_eq_false (fun x => x h3)]
        rfl
      · rw [if_neg h3, decide_eq_true h3, Bool.true_and]
        by_cases h4 : l = [46, 46]
        · rw [if_pos h4, decide_eq_false (fun x => x h4)]
          rfl
        · rw [if_neg h4, decide_eq_true h4, Bool.true_and]
          by_cases h5 : (s.size : Int) ≥ 4
          · rw [if_pos h5, if_pos (by decide), if_pos (by omega)]
            congr 2
            rw [Bool.eq_iff_iff, beq_iff_eq, decide_eq_true_eq]
            rfl
          · rw [if_neg h5]
            congr 2
            symm
            rw [decide_eq_false_iff_not]
            intro e
            have := congrArg List.length e
            simp only [List.length_take, List.length_cons, List.length_nil] at this
            omega
    · rw [if_neg h2, decide_eq_false (show ¬ l.length ≤ 60 by omega)]
      rfl
  · rw [if_neg h1, decide_eq_false (show ¬ l ≠ [] from fun x => x (List.eq_nil_of_length_eq_zero (by omega)))]
    rfl
theorem refPart_l0 (s : ByteArray) (hn : s.size ≤ 9223372036854775807) : ∀ (d i : Nat), s.size - i = d → i ≤ s.size → Ev (fun k => hogsheadref1_Part.l0 k s (i : Int)) (decide ((47 : UInt8) ∉ s.data.toList.drop i) && (decide ((0 : UInt8) ∉ s.data.toList.drop i) && endB s.data.toList)) := by
  intro d
  induction d with
  | zero =>
    intro i hd hi
    refine ⟨1, fun k hk => ?_⟩
    obtain ⟨k, rfl⟩ : ∃ m, k = m + 1 := ⟨k - 1, by omega⟩
    show hogsheadref1_Part.l0 (k + 1) s (i : Int) = _
    rw [part_tail k s i (by omega), List.drop_eq_nil_of_le (by rw [data_length]; omega)]
    simp
  | succ d ih =>
    intro i hd hi
    have hlt : i < s.size := by omega
    obtain ⟨K, hK⟩ := ih (i + 1) (by omega) (by omega)
    refine ⟨K + 1, fun k hk => ?_⟩
    obtain ⟨k, rfl⟩ : ∃ m, k = m + 1 := ⟨k - 1, by omega⟩
    have hK := hK k (by omega)
    simp only at hK
    simp only [hogsheadref1_Part.l0]
    rw [if_pos (by omega), if_pos (by omega), bt_nat s i hlt, drop_data s i hlt]
    generalize s.data.toList[i]'(by rw [data_length]; exact hlt) = c at *
    by_cases h1 : c = 47
    · subst h1
      rw [if_pos (by rfl)]
      simp
    · have h1n : ¬ ((c.toNat : Nat) : Int) = 47 := fun e => h1 (UInt8.toNat_inj.1 (by show c.toNat = 47; omega))
      rw [if_neg h1n]
      by_cases h2 : c = 0
      · subst h2
        rw [if_pos (by rfl)]
        simp
      · have h2n : ¬ ((c.toNat : Nat) : Int) = 0 := fun e => h2 (UInt8.toNat_inj.1 (by show c.toNat = 0; omega))
        rw [if_neg h2n, wrap_i i s.size hlt hn, hK]
        have e1 : decide ((47 : UInt8) ∉ c :: s.data.toList.drop (i + 1)) = decide ((47 : UInt8) ∉ s.data.toList.drop (i + 1)) := by
          rw [decide_eq_decide, List.mem_cons]
          exact ⟨fun h x => h (.inr x), fun h x => x.elim (fun e => h1 e.symm) h⟩
        have e2 : decide ((0 : UInt8) ∉ c :: s.data.toList.drop (i + 1)) = decide ((0 : UInt8) ∉ s.data.toList.drop (i + 1)) := by
          rw [decide_eq_decide, List.mem_cons]
          exact ⟨fun h x => h (.inr x), fun h x => x.elim (fun e => h2 e.symm) h⟩
        rw [e1, e2]
theorem refPart_eq (s : ByteArray) (hn : s.size ≤ 9223372036854775807) : Ev (fun k => hogsheadref1_Part.f k s) (partB s.data.toList) := by
  obtain ⟨K, hK⟩ := refPart_l0 s hn s.size 0 (by omega) (by omega)
  refine ⟨K, fun k hk => ?_⟩
  have := hK k hk
  rw [part_end]
  exact this
end Go.Proofs.YtdijnmcfpbceaaaGreatDoor.X

namespace Go.Proofs.YtdijnmcfpbceaaaGreatDoor.X
open Go.RowKit Go.Proofs.YtdijnmcfpbceaaaGreatDoorW.PrintWords Go.Proofs.YtdijnmcfpbceaaaGreatDoorW.PrintLast Go.Proofs.YtdijnmcfpbceaaaGreatDoorW.PrintMore Go.Proofs.YtdijnmcfpbceaaaGreatDoor.P
set_option linter.unusedVariables false
set_option linter.unusedSimpArgs false
def baS (l : List UInt8) : ByteArray := ⟨l.toArray⟩
theorem ba_extract (s : ByteArray) (a b : Nat) (h : a ≤ b) : s.extract a b = baS ((s.data.toList.drop a).take (b - a)) := by
  have e : ∀ x y : ByteArray, x.data.toList = y.data.toList → x = y := fun x y h => by
    cases x
    cases y
    congr 1
    exact Array.toList_inj.1 h
  apply e
  rw [ByteArray.data_extract, Array.toList_extract]
  rfl
theorem cut_l0 (s : ByteArray) (hn : s.size ≤ 100000) : ∀ (d i a : Nat) (x : List ByteArray), s.size - i = d → i ≤ s.size → a ≤ i → x.length + d ≤ 200000 → (47 : UInt8) ∉ (s.data.toList.drop a).take (i - a) →
    Ev (fun k => hogsheadref1_Cut.l0 k s x (a : Int) (i : Int)) (x ++ (cutL 47 (s.data.toList.drop a)).map baS) := by
  intro d
  induction d with
  | zero =>
    intro i a x hd hi ha hx hno
    refine ⟨2, fun k hk => ?_⟩
    obtain ⟨k, rfl⟩ : ∃ m, k = m + 2 := ⟨k - 2, by omega⟩
    have hl : s.data.toList.length = s.size := data_length s
    simp only [hogsheadref1_Cut.l0]
    rw [if_pos (by omega), if_pos (by omega), if_pos (by omega), if_pos (by omega), if_pos (by omega), wrap_i i (i + 1) (by omega) (by omega), if_neg (by omega), Int.toNat_natCast, Int.toNat_natCast, ba_extract s a i ha]
    have hall : (s.data.toList.drop a).take (i - a) = s.data.toList.drop a := List.take_of_length_le (by rw [List.length_drop]; omega)
    rw [hall] at hno ⊢
    rw [cutL_none 47 _ hno]
    rfl
  | succ d ih =>
    intro i a x hd hi ha hx hno
    have hlt : i < s.size := by omega
    have hl : s.data.toList.length = s.size := data_length s
    have hsplit : s.data.toList.drop a = (s.data.toList.drop a).take (i - a) ++ s.data.toList.drop i := by
      conv => lhs; rw [← List.take_append_drop (i - a) (s.data.toList.drop a)]
      rw [List.drop_drop, show a + (i - a) = i from by omega]
    have hcons := drop_data s i hlt
    by_cases hc : s.data.toList[i]'(by rw [hl]; exact hlt) = 47
    · obtain ⟨K, hK⟩ := ih (i + 1) (i + 1) (x ++ [baS ((s.data.toList.drop a).take (i - a))]) (by omega) (by omega) (Nat.le_refl _) (by rw [List.length_append, List.length_singleton]; omega) (by simp)
      refine ⟨K + 1, fun k hk => ?_⟩
      obtain ⟨k, rfl⟩ : ∃ m, k = m + 1 := ⟨k - 1, by omega⟩
      have hK := hK k (by omega)
      simp only at hK
      simp only [hogsheadref1_Cut.l0]
      rw [if_pos (by omega), if_neg (by omega), if_pos (by omega), if_pos (by omega), bt_nat s i hlt, hc, if_pos (by rfl), if_pos (by omega), if_pos (by omega), if_pos (by omega), Int.toNat_natCast, Int.toNat_natCast, ba_extract s a i ha, wrap_i i (i + 1) (by omega) (by omega), hK]
      have ecut : cutL 47 (s.data.toList.drop a) = (s.data.toList.drop a).take (i - a) :: cutL 47 (s.data.toList.drop (i + 1)) := by
        conv => lhs; rw [hsplit, hcons, hc]
        exact cutL_app 47 _ _ hno
      rw [ecut]
      simp
    · obtain ⟨K, hK⟩ := ih (i + 1) a x (by omega) (by omega) (by omega) (by omega) (by
        have e : (s.data.toList.drop a).take (i + 1 - a) = (s.data.toList.drop a).take (i - a) ++ [s.data.toList[i]'(by rw [hl]; exact hlt)] := by
          rw [show i + 1 - a = (i - a) + 1 from by omega, List.take_succ_eq_append_getElem (by rw [List.length_drop]; omega), List.getElem_drop]
          congr 3
          omega
        rw [e, List.mem_append, List.mem_singleton]
        exact fun h => h.elim hno fun h => hc h.symm)
      refine ⟨K + 1, fun k hk => ?_⟩
      obtain ⟨k, rfl⟩ : ∃ m, k = m + 1 := ⟨k - 1, by omega⟩
      have hK := hK k (by omega)
      simp only at hK
      simp only [hogsheadref1_Cut.l0]
      have hcn : ¬ (((s.data.toList[i]'(by rw [hl]; exact hlt)).toNat : Nat) : Int) = 47 := fun e => hc (UInt8.toNat_inj.1 (by show _ = 47; omega))
      rw [if_pos (by omega), if_neg (by omega), if_pos (by omega), if_pos (by omega), bt_nat s i hlt, if_neg hcn, wrap_i i (i + 1) (by omega) (by omega), hK]
theorem refCut_eq (s : ByteArray) (hn : s.size ≤ 100000) : Ev (fun k => hogsheadref1_Cut.f k s) ((cutL 47 s.data.toList).map baS) := by
  obtain ⟨K, hK⟩ := cut_l0 s hn s.size 0 0 [] (by omega) (by omega) (Nat.le_refl _) (by simp; omega) (by simp)
  refine ⟨K, fun k hk => ?_⟩
  show hogsheadref1_Cut.l0 k s [] 0 0 = _
  simpa using hK k hk
end Go.Proofs.YtdijnmcfpbceaaaGreatDoor.X

namespace Go.Proofs.YtdijnmcfpbceaaaGreatDoor.X
open Go.RowKit Go.Proofs.YtdijnmcfpbceaaaGreatDoorW.PrintWords Go.Proofs.YtdijnmcfpbceaaaGreatDoorW.PrintLast Go.Proofs.YtdijnmcfpbceaaaGreatDoorW.PrintMore Go.Proofs.YtdijnmcfpbceaaaGreatDoor.P
set_option linter.unusedVariables false
set_option linter.unusedSimpArgs false
theorem rdOf_get (l : List ByteArray) (i : Nat) (h : i < l.length) : rdOf ByteArray.empty l (i : Int) = l[i] := by
  simp [rdOf, List.getD_eq_getElem?_getD, h]
theorem may1_l0 (l : List ByteArray) (hn : l.length ≤ 1000000) (hs : ∀ s ∈ l, s.size ≤ 1000000) : ∀ (d i : Nat), l.length - i = d → i ≤ l.length → Ev (fun k => hogsheadref1_May.l0 k l (i : Int)) ((l.drop i).all (fun s => partB s.data.toList) && decide (l.length ≤ 10)) := by
  intro d
  induction d with
  | zero =>
    intro i hd hi
    refine ⟨1, fun k hk => ?_⟩
    obtain ⟨k, rfl⟩ : ∃ m, k = m + 1 := ⟨k - 1, by omega⟩
    simp only [hogsheadref1_May.l0]
    rw [if_neg (by omega), List.drop_eq_nil_of_le (by omega)]
    congr 1
    rw [List.all_nil, Bool.true_and, decide_eq_decide]
    omega
  | succ d ih =>
    intro i hd hi
    have hlt : i < l.length := by omega
    obtain ⟨K1, h1⟩ := refPart_eq l[i] (by have := hs l[i] (List.getElem_mem _); omega)
    obtain ⟨K2, h2⟩ := ih (i + 1) (by omega) (by omega)
    refine ⟨K1 + K2 + 1, fun k hk => ?_⟩
    obtain ⟨k, rfl⟩ : ∃ m, k = m + 1 := ⟨k - 1, by omega⟩
    have h1 := h1 k (by omega)
    have h2 := h2 k (by omega)
    simp only at h1 h2
    simp only [hogsheadref1_May.l0]
    rw [if_pos (by omega), if_pos (by omega), rdOf_get l i hlt, h1, Option.bind_some, List.drop_eq_getElem_cons hlt, List.all_cons]
    cases hp : partB l[i].data.toList with
    | true =>
      rw [if_pos rfl, wrap_i i l.length hlt (by omega), h2, Bool.true_and]
    | false =>
      rw [if_neg (by simp), Bool.false_and, Bool.false_and]
theorem ba_list (l : List UInt8) : (baS l).data.toList = l := rfl
theorem cutL_small (c : UInt8) : ∀ (l p : List UInt8), p ∈ cutL c l → p.length ≤ l.length
  | [], p, h => by
    rw [cutL, List.mem_singleton] at h
    rw [h]
    exact Nat.le_refl _
  | b :: l, p, h => by
    unfold cutL at h
    split at h
    · rcases List.mem_cons.1 h with rfl | h
      · simp
      · have := cutL_small c l p h
        rw [List.length_cons]
        omega
    · split at h
      · rename_i e
        exact absurd e (cutL_ne c l)
      · rename_i q r e
        rcases List.mem_cons.1 h with rfl | h
        · have := cutL_small c l q (by rw [e]; exact List.mem_cons_self)
          rw [List.length_cons, List.length_cons]
          omega
        · have := cutL_small c l p (by rw [e]; exact List.mem_cons_of_mem _ h)
          rw [List.length_cons]
          omega
theorem cutL_count (c : UInt8) : ∀ l : List UInt8, (cutL c l).length ≤ l.length + 1
  | [] => by simp [cutL]
  | b :: l => by
    have ih := cutL_count c l
    unfold cutL
    split
    · simp only [List.length_cons]
      omega
    · split
      · simp
      · rename_i q r e
        rw [e] at ih
        simp only [List.length_cons] at ih ⊢
        omega
theorem refPath_eq (s : ByteArray) (hn : s.size ≤ 100000) : Ev (fun k => hogsheadref1_May.f k s) (pathB s.data.toList) := by
  have hl : s.data.toList.length = s.size := data_length s
  obtain ⟨K1, h1⟩ := refCut_eq s hn
  have hc := cutL_count 47 s.data.toList
  obtain ⟨K2, h2⟩ := may1_l0 ((cutL 47 s.data.toList).map baS) (by rw [List.length_map]; omega) (fun x hx => by
    obtain ⟨p, hp, rfl⟩ := List.mem_map.1 hx
    have := cutL_small 47 _ p hp
    show (⟨p.toArray⟩ : ByteArray).size ≤ 1000000
    rw [size_mk]
    omega) _ 0 rfl (Nat.zero_le _)
  refine ⟨K1 + K2, fun k hk => ?_⟩
  have h1 := h1 k (by omega)
  have h2 := h2 k (by omega)
  simp only at h1 h2
  show hogsheadref1_May.f k s = _
  unfold hogsheadref1_May.f pathB
  rw [ByteArray.toList_eq]
  by_cases h0 : s.data.toList = []
  · rw [if_pos h0, decide_eq_true h0]
    rfl
  · rw [if_neg h0, decide_eq_false h0, Bool.false_or]
    by_cases h200 : s.size ≤ 200
    · rw [if_neg (by omega), h1, Option.bind_some, decide_eq_true (show s.data.toList.length ≤ 200 by omega), Bool.true_and]
      have h2' : hogsheadref1_May.l0 k ((cutL 47 s.data.toList).map baS) 0 = _ := h2
      rw [h2', List.drop_zero, List.all_map, List.length_map]
      rfl
    · rw [if_pos (by omega), decide_eq_false (show ¬ s.data.toList.length ≤ 200 by omega)]
      rfl
end Go.Proofs.YtdijnmcfpbceaaaGreatDoor.X

namespace Go.Proofs.YtdijnmcfpbceaaaGreatDoor.P
open Go.Proofs.YtdijnmcfpbceaaaGreatDoor.X
open Go.RowKit Go.Proofs.YtdijnmcfpbceaaaGreatDoorW.PrintWords Go.Proofs.YtdijnmcfpbceaaaGreatDoorW.PrintLast Go.Proofs.YtdijnmcfpbceaaaGreatDoorW.PrintMore
attribute [local go_sem] min2_int min_two
set_option linter.unusedVariables false
set_option linter.unusedSimpArgs false
def hogsheadref1_Split.f (k : Nat) (a0 : ByteArray) : Option (List ByteArray) := if a0.toList = ([] : List UInt8) then (some ([] : List ByteArray)) else ((hogsheadref1_May.f k a0).bind fun t126 => (if t126 = true then ((hogsheadref1_Cut.f k a0).bind fun t127 => (some t127)) else (some ([] : List ByteArray))))
set_option maxHeartbeats 8000000 in
set_option maxRecDepth 100000 in
theorem hogsheadref1_Split.calls (k : Nat) (a0 : ByteArray) (r : List ByteArray) (w : World) (h : hogsheadref1_Split.f k a0 = some r) :
  Calls Tryz.prog 81 #[.string a0] w fun e w' => ∃ v0_ : Value, e = .returned (v0_) ∧ Kd.R Kd.string 9 w' w.heap.size (fun _ => True) v0_ r ∧ Below w.heap.size w w' := by
 have HB := Aside0.mk (Below.refl w.heap.size w)
 have H : (if a0.toList = ([] : List UInt8) then (some ([] : List ByteArray)) else ((hogsheadref1_May.f k a0).bind fun t126 => (if t126 = true then ((hogsheadref1_Cut.f k a0).bind fun t127 => (some t127)) else (some ([] : List ByteArray))))) = some r := h
 clear h
 by_cases c2 : a0.toList = ([] : List UInt8)
 ·rw [if_pos c2] at H
  have c2b0 : (a0.toList == ([] : List UInt8)) = true := beq_iff_eq.mpr c2
  have c2b1 : (a0.toList != ([] : List UInt8)) = false := bne_eq_false_iff_eq.mpr c2
  clear c2
  obtain rfl := Option.some.inj H
  go_enter Tryz.func81, Tryz.ntmps81
  go_wp2
  go_ret
  exact ⟨_, by first | rfl | (simp [errW_none, errW_some] <;> rfl) | (simp [*, errW_none, errW_some] <;> rfl), by first | exact Kd.R_nil _ _ _ _ _ | exact Kd.N_nil _ _ _ _ _ | exact Kd.V_nil _ _ _ _ _ | exact Kd.Q_nil _ _ _ _ _ | exact Kd.S_nil _ _ _ _ _, by repeat (first | (with_reducible first | exact HB.out | apply below_alloc | apply pw_below_drewN | apply below_drew1) | exact HB.out)⟩
 ·rw [if_neg c2] at H
  have c2b0 : (a0.toList == ([] : List UInt8)) = false := beq_eq_false_iff_ne.mpr c2
  have c2b1 : (a0.toList != ([] : List UInt8)) = true := bne_iff_ne.mpr c2
  replace H := Option.bind_eq_some_iff.mp H
  obtain ⟨t126, A30, H⟩ := H
  replace H : (if t126 = true then ((hogsheadref1_Cut.f k a0).bind fun t127 => (some t127)) else (some ([] : List ByteArray))) = some r := H
  have A3 := Aside0.mk A30
  clear A30
  by_cases c4 : t126 = true
  ·subst c4
   have H1 : ((hogsheadref1_Cut.f k a0).bind fun t127 => (some t127)) = some r := by rw [if_pos rfl] at H; exact H
   clear H
   have H := H1
   clear H1
   replace H := Option.bind_eq_some_iff.mp H
   obtain ⟨t127, A50, H⟩ := H
   replace H : (some t127) = some r := H
   have A5 := Aside0.mk A50
   clear A50
   obtain rfl := Option.some.inj H
   go_enter Tryz.func81, Tryz.ntmps81
   go_wp2_with (first | (go_at_call 80; (with_reducible refine (hogsheadref1_May.calls k a0 true _ A3.out).mono ?_); rintro e w6 ⟨rfl, hb⟩; have n0_ := Aside0.mk (below_step (by repeat (first | (with_reducible first | exact HB.out | apply below_alloc | apply pw_below_drewN | apply below_drew1) | exact HB.out)) hb); clear HB; have HB := n0_; clear n0_; (try clear hb); (try clear hb2); (try clear hk); (try clear hi)) | ((with_reducible refine gate_callee (f := 105) rfl ?_); refine goesL_ (some 11) rfl rfl Tryz.func105 (by kernel_rfl) rfl #[.string a0] rfl (by (try simp only [List.map_toArray, List.map_cons, List.map_nil]); first | done | rfl | (simp only [List.length_drop, List.length_take]; rfl)) ?_; (with_reducible refine (hogsheadref1_Cut.calls k a0 t127 _ A5.out).mono ?_); rintro e w7 ⟨v128, rfl, ho0, hb⟩; refine ⟨_, rfl, ?_⟩; have n0_ := Aside0.mk (Kd.R_lower ho0 (below_size (by repeat (first | (with_reducible first | exact HB.out | apply below_alloc | apply pw_below_drewN | apply below_drew1) | exact HB.out)))); have n1_ := Aside0.mk (below_step (by repeat (first | (with_reducible first | exact HB.out | apply below_alloc | apply pw_below_drewN | apply below_drew1) | exact HB.out)) hb); clear HB; have HO129 := n0_; have HB := n1_; clear n0_ n1_; (try clear hb); (try clear hb2); (try clear hk); (try clear hi); (try clear ho0)))
   go_ret
   exact ⟨_, by first | rfl | (simp [errW_none, errW_some] <;> rfl) | (simp [*, errW_none, errW_some] <;> rfl), by (with_reducible repeat (first | apply Kd.R_alloc | apply Kd.R_drewN | apply Kd.R_drew)); exact HO129.out, by repeat (first | (with_reducible first | exact HB.out | apply below_alloc | apply pw_below_drewN | apply below_drew1) | exact HB.out)⟩
  ·replace c4 := Bool.eq_false_iff.mpr c4
   subst c4
   have H1 : (some ([] : List ByteArray)) = some r := by rw [if_neg (show ¬ (false = true) by decide)] at H; exact H
   clear H
   have H := H1
   clear H1
   obtain rfl := Option.some.inj H
   go_enter Tryz.func81, Tryz.ntmps81
   go_wp2_with (first | (go_at_call 80; (with_reducible refine (hogsheadref1_May.calls k a0 false _ A3.out).mono ?_); rintro e w8 ⟨rfl, hb⟩; have n0_ := Aside0.mk (below_step (by repeat (first | (with_reducible first | exact HB.out | apply below_alloc | apply pw_below_drewN | apply below_drew1) | exact HB.out)) hb); clear HB; have HB := n0_; clear n0_; (try clear hb); (try clear hb2); (try clear hk); (try clear hi)))
   go_ret
   exact ⟨_, by first | rfl | (simp [errW_none, errW_some] <;> rfl) | (simp [*, errW_none, errW_some] <;> rfl), by first | exact Kd.R_nil _ _ _ _ _ | exact Kd.N_nil _ _ _ _ _ | exact Kd.V_nil _ _ _ _ _ | exact Kd.Q_nil _ _ _ _ _ | exact Kd.S_nil _ _ _ _ _, by repeat (first | (with_reducible first | exact HB.out | apply below_alloc | apply pw_below_drewN | apply below_drew1) | exact HB.out)⟩
end Go.Proofs.YtdijnmcfpbceaaaGreatDoor.P

namespace Go.Proofs.YtdijnmcfpbceaaaGreatDoor.P
open Go.Proofs.YtdijnmcfpbceaaaGreatDoor.X
open Go.RowKit Go.Proofs.YtdijnmcfpbceaaaGreatDoorW.PrintWords Go.Proofs.YtdijnmcfpbceaaaGreatDoorW.PrintLast Go.Proofs.YtdijnmcfpbceaaaGreatDoorW.PrintMore
attribute [local go_sem] min2_int min_two
set_option linter.unusedVariables false
set_option linter.unusedSimpArgs false
mutual
def hogsheadref1_Join.l0 : Nat → List ByteArray → ByteArray → Int → Option (ByteArray × Bool)
 | 0, _, _, _ => none
 | k + 1, x0, x4, x5 => if x5 < (x0.length : Int) then (if 0 ≤ x5 then ((hogsheadref1_Part.f k (rdOf ByteArray.empty x0 x5)).bind fun t132 => (if t132 = true then (hogsheadref1_Join.j1 k x0 x4 x5 (decide ((x4.size : Int) > 200))) else (hogsheadref1_Join.j1 k x0 x4 x5 true))) else (none)) else ((hogsheadref1_May.f k x4).bind fun t130 => (if t130 = true then (some (x4, true)) else (some ((⟨#[]⟩ : ByteArray), false))))
def hogsheadref1_Join.j1 : Nat → List ByteArray → ByteArray → Int → Bool → Option (ByteArray × Bool)
 | 0, _, _, _, _ => none
 | k + 1, x0, x4, x5, x22 => if x22 = true then (some ((⟨#[]⟩ : ByteArray), false)) else (if x5 > 0 then (if x4.size + 1 ≤ 9223372036854775807 then (if 0 ≤ x5 then (if x5 < (x0.length : Int) then (if (x4 ++ (⟨#[47]⟩ : ByteArray)).size + (rdOf ByteArray.empty x0 x5).size ≤ 9223372036854775807 then (hogsheadref1_Join.l0 k x0 ((x4 ++ (⟨#[47]⟩ : ByteArray)) ++ (rdOf ByteArray.empty x0 x5)) (wrap64 (x5 + 1))) else (none)) else (none)) else (none)) else (none)) else (if 0 ≤ x5 then (if x5 < (x0.length : Int) then (if x4.size + (rdOf ByteArray.empty x0 x5).size ≤ 9223372036854775807 then (hogsheadref1_Join.l0 k x0 (x4 ++ (rdOf ByteArray.empty x0 x5)) (wrap64 (x5 + 1))) else (none)) else (none)) else (none)))
end
def hogsheadref1_Join.f (k : Nat) (l0 : List ByteArray) : Option (ByteArray × Bool) := hogsheadref1_Join.l0 k l0 (⟨#[]⟩ : ByteArray) 0
set_option maxHeartbeats 8000000 in
set_option maxRecDepth 100000 in
theorem hogsheadref1_Join.calls (k : Nat) (A0 : Option Addr) (c0 : Nat) (l0 : List ByteArray) (r1 : ByteArray) (r2 : Bool) (w : World) (hr0 : Kd.C Kd.string w A0 l0.length l0) (hc0 : l0.length ≤ c0) (h : hogsheadref1_Join.f k l0 = some (r1, r2)) :
  Calls Tryz.prog 82 #[.slice A0 l0.length c0] w fun e w' => e = .returned (.tuple #[.string r1, .bool r2]) ∧ Below w.heap.size w w' := by
 have HR0 := Aside0.mk hr0
 have HC0 := Aside0.mk hc0
 clear hr0 hc0
 have HB := Aside0.mk (Below.refl w.heap.size w)
 have H : (hogsheadref1_Join.l0 k l0 (⟨#[]⟩ : ByteArray) 0) = some (r1, r2) := h
 clear h
 have H' := Aside0.mk H
 clear H
 go_enter Tryz.func82, Tryz.ntmps82
 go_wp2
 go_loopg [4, 5] k (fun kq v4 v5 w' => ∃ (x4_1 : ByteArray) (x5_1 : Int), v4 = .string x4_1 ∧ v5 = .int .i64 x5_1 ∧ Aside0 (hogsheadref1_Join.l0 kq l0 x4_1 x5_1 = some (r1, r2)) ∧ Aside0 (kq ≤ k) ∧ Aside0 (Below w.heap.size w w'))
 case atStart => exact ⟨((⟨#[]⟩ : ByteArray)), (0), (by first | rfl | (simp; done) | (simp [*]; done) | exact congrArg Value.bool (nil_ne _) | exact congrArg Value.bool (nil_eq _) | exact congrArg Value.bool (nil_ne' _)), (by first | rfl | (simp; done) | (simp [*]; done) | exact congrArg Value.bool (nil_ne _) | exact congrArg Value.bool (nil_eq _) | exact congrArg Value.bool (nil_ne' _)), H', ⟨Nat.le_refl _⟩, ⟨by repeat (first | (with_reducible first | exact HB.out | apply below_alloc | apply pw_below_drewN | apply below_drew1) | exact HB.out)⟩⟩
 case round =>
  clear H'
  obtain ⟨x4_1, x5_1, rfl, rfl, HA, HK1, HB⟩ := hrel
  cases gk with
  | zero => exact absurd HA.out (by simp [hogsheadref1_Join.l0])
  | succ k1 =>
   have H := HA.out
   clear HA
   simp only [hogsheadref1_Join.l0] at H
   by_cases c2 : x5_1 < (l0.length : Int)
   ·rw [if_pos c2] at H
    have c2b0 : decide (x5_1 < (l0.length : Int)) = true := decide_eq_true c2
    clear c2
    have HC3 := Aside0.mk H
    clear H
    go_upto_region 5 with (fail)
    go_cut [22] (fun v22 wc => ∃ (kq : Nat) (x22_2 : Bool), v22 = .bool x22_2 ∧ Aside0 (hogsheadref1_Join.j1 kq l0 x4_1 x5_1 x22_2 = some (r1, r2)) ∧ Aside0 (kq ≤ k1) ∧ Aside0 (Below w.heap.size w wc))
    case first =>
     have H := HC3.out
     clear HC3
     by_cases c4 : 0 ≤ x5_1
     ·rw [if_pos c4] at H
      have c4b0 : decide (0 ≤ x5_1) = true := decide_eq_true c4
      clear c4
      (first | rw [c4b0] | (simp only [i64_w, i32_w]; rw [c4b0]) | skip)
      replace H := Option.bind_eq_some_iff.mp H
      obtain ⟨t132, A50, H⟩ := H
      replace H : (if t132 = true then (hogsheadref1_Join.j1 k1 l0 x4_1 x5_1 (decide ((x4_1.size : Int) > 200))) else (hogsheadref1_Join.j1 k1 l0 x4_1 x5_1 true)) = some (r1, r2) := H
      have A5 := Aside0.mk A50
      clear A50
      by_cases c6 : t132 = true
      ·subst c6
       have H1 : (hogsheadref1_Join.j1 k1 l0 x4_1 x5_1 (decide ((x4_1.size : Int) > 200))) = some (r1, r2) := by rw [if_pos rfl] at H; exact H
       clear H
       have H := H1
       clear H1
       have H' := Aside0.mk H
       clear H
       have p131 : 0 ≤ (x5_1 : Int) := of_decide_eq_true (by first | (with_reducible assumption) | assumption)
       have q131 : x5_1 < (l0.length : Int) := of_decide_eq_true (by first | (with_reducible assumption) | assumption)
       obtain ⟨ad131, e131, hx131_0⟩ := Kd.at_string HR0.out x5_1 p131 q131
       cases e131
       replace hx131_0 := (HB.out.cell (World.block_lt_of_cell? w _ hx131_0)).trans hx131_0
       replace p131 := eq_true p131
       replace q131 := eq_true q131
       go_wp2_with (first | ((with_reducible refine gate_callee (f := 106) rfl ?_); refine goesL_ (some 16) rfl rfl Tryz.func106 (by kernel_rfl) rfl #[.string (rdOf ByteArray.empty l0 x5_1)] rfl (by (try simp only [List.map_toArray, List.map_cons, List.map_nil]); first | done | rfl | (simp only [List.length_drop, List.length_take]; rfl)) ?_; (with_reducible refine (hogsheadref1_Part.calls k1 (rdOf ByteArray.empty l0 x5_1) true _ A5.out).mono ?_); rintro e w' ⟨rfl, ⟨nd, rfl⟩⟩; refine ⟨_, rfl, ?_⟩))
       go_meet
       case rel => exact ⟨_, (decide ((x4_1.size : Int) > 200)), (by first | rfl | (simp; done) | (simp [*]; done) | exact congrArg Value.bool (nil_ne _) | exact congrArg Value.bool (nil_eq _) | exact congrArg Value.bool (nil_ne' _)), H', ⟨by have := HK1.out; first | omega | exact Nat.le_refl _⟩, ⟨by repeat (first | (with_reducible first | exact HB.out | apply below_alloc | apply pw_below_drewN | apply below_drew1) | exact HB.out)⟩⟩
      ·replace c6 := Bool.eq_false_iff.mpr c6
       subst c6
       have H1 : (hogsheadref1_Join.j1 k1 l0 x4_1 x5_1 true) = some (r1, r2) := by rw [if_neg (show ¬ (false = true) by decide)] at H; exact H
       clear H
       have H := H1
       clear H1
       have H' := Aside0.mk H
       clear H
       have p131 : 0 ≤ (x5_1 : Int) := of_decide_eq_true (by first | (with_reducible assumption) | assumption)
       have q131 : x5_1 < (l0.length : Int) := of_decide_eq_true (by first | (with_reducible assumption) | assumption)
       obtain ⟨ad131, e131, hx131_0⟩ := Kd.at_string HR0.out x5_1 p131 q131
       cases e131
       replace hx131_0 := (HB.out.cell (World.block_lt_of_cell? w _ hx131_0)).trans hx131_0
       replace p131 := eq_true p131
       replace q131 := eq_true q131
       go_wp2_with (first | ((with_reducible refine gate_callee (f := 106) rfl ?_); refine goesL_ (some 16) rfl rfl Tryz.func106 (by kernel_rfl) rfl #[.string (rdOf ByteArray.empty l0 x5_1)] rfl (by (try simp only [List.map_toArray, List.map_cons, List.map_nil]); first | done | rfl | (simp only [List.length_drop, List.length_take]; rfl)) ?_; (with_reducible refine (hogsheadref1_Part.calls k1 (rdOf ByteArray.empty l0 x5_1) false _ A5.out).mono ?_); rintro e w' ⟨rfl, ⟨nd, rfl⟩⟩; refine ⟨_, rfl, ?_⟩))
       go_meet
       case rel => exact ⟨_, (true), (by first | rfl | (simp; done) | (simp [*]; done) | exact congrArg Value.bool (nil_ne _) | exact congrArg Value.bool (nil_eq _) | exact congrArg Value.bool (nil_ne' _)), H', ⟨by have := HK1.out; first | omega | exact Nat.le_refl _⟩, ⟨by repeat (first | (with_reducible first | exact HB.out | apply below_alloc | apply pw_below_drewN | apply below_drew1) | exact HB.out)⟩⟩
     ·rw [if_neg c4] at H
      exact absurd H (by simp)
    case rest =>
     clear HC3
     try clear c1
     try clear p1
     try clear q1
     try clear hx1
     try clear c2
     try clear c2b0
     try clear p2
     try clear c4
     try clear c4b0
     try clear c6
     try clear hx131_0
     try clear p131
     try clear q131
     obtain ⟨kq, x22_2, rfl, HA, HJ2, HB⟩ := hcut
     cases kq with
     | zero => exact absurd HA.out (by simp [hogsheadref1_Join.j1])
     | succ kj2 =>
      have H := HA.out
      clear HA
      simp only [hogsheadref1_Join.j1] at H
      by_cases c7 : x22_2 = true
      ·subst c7
       have H1 : (some ((⟨#[]⟩ : ByteArray), false)) = some (r1, r2) := by rw [if_pos rfl] at H; exact H
       clear H
       have H := H1
       clear H1
       simp only [Option.some.injEq, Prod.mk.injEq] at H
       obtain ⟨rfl, rfl⟩ := H
       go_wp2
       go_ret2
       exact ⟨by first | rfl | (simp [errW_none, errW_some] <;> rfl) | (simp [*, errW_none, errW_some] <;> rfl), by repeat (first | (with_reducible first | exact HB.out | apply below_alloc | apply pw_below_drewN | apply below_drew1) | exact HB.out)⟩
      ·replace c7 := Bool.eq_false_iff.mpr c7
       subst c7
       have H1 : (if x5_1 > 0 then (if x4_1.size + 1 ≤ 9223372036854775807 then (if 0 ≤ x5_1 then (if x5_1 < (l0.length : Int) then (if (x4_1 ++ (⟨#[47]⟩ : ByteArray)).size + (rdOf ByteArray.empty l0 x5_1).size ≤ 9223372036854775807 then (hogsheadref1_Join.l0 kj2 l0 ((x4_1 ++ (⟨#[47]⟩ : ByteArray)) ++ (rdOf ByteArray.empty l0 x5_1)) (wrap64 (x5_1 + 1))) else (none)) else (none)) else (none)) else (none)) else (if 0 ≤ x5_1 then (if x5_1 < (l0.length : Int) then (if x4_1.size + (rdOf ByteArray.empty l0 x5_1).size ≤ 9223372036854775807 then (hogsheadref1_Join.l0 kj2 l0 (x4_1 ++ (rdOf ByteArray.empty l0 x5_1)) (wrap64 (x5_1 + 1))) else (none)) else (none)) else (none))) = some (r1, r2) := by rw [if_neg (show ¬ (false = true) by decide)] at H; exact H
       clear H
       have H := H1
       clear H1
       by_cases c8 : x5_1 > 0
       ·rw [if_pos c8] at H
        have c8b0 : decide (0 < x5_1) = true := decide_eq_true c8
        clear c8
        by_cases c9 : x4_1.size + 1 ≤ 9223372036854775807
        ·rw [if_pos c9] at H
         have c9b0 := eq_true c9
         have c9b1 : decide (x4_1.size + 1 ≤ 9223372036854775807) = true := decide_eq_true c9
         try have c9b2 : (9223372036854775807 < x4_1.size + 1) = False := eq_false (Nat.not_lt.2 c9)
         have Sc9 := Aside0.mk c9
         clear c9
         by_cases c10 : 0 ≤ x5_1
         ·rw [if_pos c10] at H
          have c10b0 : decide (0 ≤ x5_1) = true := decide_eq_true c10
          clear c10
          by_cases c11 : x5_1 < (l0.length : Int)
          ·rw [if_pos c11] at H
           have c11b0 : decide (x5_1 < (l0.length : Int)) = true := decide_eq_true c11
           clear c11
           by_cases c12 : (x4_1 ++ (⟨#[47]⟩ : ByteArray)).size + (rdOf ByteArray.empty l0 x5_1).size ≤ 9223372036854775807
           ·rw [if_pos c12] at H
            have c12b0 := eq_true c12
            have c12b1 : decide ((x4_1 ++ (⟨#[47]⟩ : ByteArray)).size + (rdOf ByteArray.empty l0 x5_1).size ≤ 9223372036854775807) = true := decide_eq_true c12
            try have c12b2 : (9223372036854775807 < (x4_1 ++ (⟨#[47]⟩ : ByteArray)).size + (rdOf ByteArray.empty l0 x5_1).size) = False := eq_false (Nat.not_lt.2 c12)
            have Sc12 := Aside0.mk c12
            clear c12
            have H' := Aside0.mk H
            clear H
            have p133 : 0 ≤ (x5_1 : Int) := of_decide_eq_true (by first | (with_reducible assumption) | assumption)
            have q133 : x5_1 < (l0.length : Int) := of_decide_eq_true (by first | (with_reducible assumption) | assumption)
            obtain ⟨ad133, e133, hx133_0⟩ := Kd.at_string HR0.out x5_1 p133 q133
            cases e133
            replace hx133_0 := (HB.out.cell (World.block_lt_of_cell? w _ hx133_0)).trans hx133_0
            replace p133 := eq_true p133
            replace q133 := eq_true q133
            go_wp2
            try any_goals (exfalso; have h_ := Sc9.out; rename_i hb_; (try simp only [ByteArray.size_extract, ByteArray.size_append] at h_ hb_); (try simp only [ByteArray.size, List.size_toArray, List.length_cons, List.length_nil] at h_ hb_); omega)
            try any_goals (exfalso; have h_ := Sc12.out; rename_i hb_; (try simp only [ByteArray.size_extract, ByteArray.size_append] at h_ hb_); (try simp only [ByteArray.size, List.size_toArray, List.length_cons, List.length_nil] at h_ hb_); omega)
            go_roundg kj2
            case measure => have := HK1.out; have := HJ2.out; omega
            case rel => exact ⟨((x4_1 ++ (⟨#[47]⟩ : ByteArray)) ++ (rdOf ByteArray.empty l0 x5_1)), (wrap64 (x5_1 + 1)), (by first | rfl | (simp; done) | (simp [*]; done) | exact congrArg Value.bool (nil_ne _) | exact congrArg Value.bool (nil_eq _) | exact congrArg Value.bool (nil_ne' _)), (by first | rfl | (simp; done) | (simp [*]; done) | exact congrArg Value.bool (nil_ne _) | exact congrArg Value.bool (nil_eq _) | exact congrArg Value.bool (nil_ne' _)), H', ⟨by have := HK1.out; have := HJ2.out; omega⟩, ⟨by repeat (first | (with_reducible first | exact HB.out | apply below_alloc | apply pw_below_drewN | apply below_drew1) | exact HB.out)⟩⟩
           ·rw [if_neg c12] at H
            exact absurd H (by simp)
          ·rw [if_neg c11] at H
           exact absurd H (by simp)
         ·rw [if_neg c10] at H
          exact absurd H (by simp)
        ·rw [if_neg c9] at H
         exact absurd H (by simp)
       ·rw [if_neg c8] at H
        have c8b0 : decide (0 < x5_1) = false := decide_eq_false c8
        clear c8
        by_cases c13 : 0 ≤ x5_1
        ·rw [if_pos c13] at H
         have c13b0 : decide (0 ≤ x5_1) = true := decide_eq_true c13
         clear c13
         by_cases c14 : x5_1 < (l0.length : Int)
         ·rw [if_pos c14] at H
          have c14b0 : decide (x5_1 < (l0.length : Int)) = true := decide_eq_true c14
          clear c14
          by_cases c15 : x4_1.size + (rdOf ByteArray.empty l0 x5_1).size ≤ 9223372036854775807
          ·rw [if_pos c15] at H
           have c15b0 := eq_true c15
           have c15b1 : decide (x4_1.size + (rdOf ByteArray.empty l0 x5_1).size ≤ 9223372036854775807) = true := decide_eq_true c15
           try have c15b2 : (9223372036854775807 < x4_1.size + (rdOf ByteArray.empty l0 x5_1).size) = False := eq_false (Nat.not_lt.2 c15)
           have Sc15 := Aside0.mk c15
           clear c15
           have H' := Aside0.mk H
           clear H
           have p134 : 0 ≤ (x5_1 : Int) := of_decide_eq_true (by first | (with_reducible assumption) | assumption)
           have q134 : x5_1 < (l0.length : Int) := of_decide_eq_true (by first | (with_reducible assumption) | assumption)
           obtain ⟨ad134, e134, hx134_0⟩ := Kd.at_string HR0.out x5_1 p134 q134
           cases e134
           replace hx134_0 := (HB.out.cell (World.block_lt_of_cell? w _ hx134_0)).trans hx134_0
           replace p134 := eq_true p134
           replace q134 := eq_true q134
           go_wp2
           try any_goals (exfalso; have h_ := Sc15.out; rename_i hb_; (try simp only [ByteArray.size_extract, ByteArray.size_append] at h_ hb_); (try simp only [ByteArray.size, List.size_toArray, List.length_cons, List.length_nil] at h_ hb_); omega)
           go_roundg kj2
           case measure => have := HK1.out; have := HJ2.out; omega
           case rel => exact ⟨(x4_1 ++ (rdOf ByteArray.empty l0 x5_1)), (wrap64 (x5_1 + 1)), (by first | rfl | (simp; done) | (simp [*]; done) | exact congrArg Value.bool (nil_ne _) | exact congrArg Value.bool (nil_eq _) | exact congrArg Value.bool (nil_ne' _)), (by first | rfl | (simp; done) | (simp [*]; done) | exact congrArg Value.bool (nil_ne _) | exact congrArg Value.bool (nil_eq _) | exact congrArg Value.bool (nil_ne' _)), H', ⟨by have := HK1.out; have := HJ2.out; omega⟩, ⟨by repeat (first | (with_reducible first | exact HB.out | apply below_alloc | apply pw_below_drewN | apply below_drew1) | exact HB.out)⟩⟩
          ·rw [if_neg c15] at H
           exact absurd H (by simp)
         ·rw [if_neg c14] at H
          exact absurd H (by simp)
        ·rw [if_neg c13] at H
         exact absurd H (by simp)
   ·rw [if_neg c2] at H
    have c2b0 : decide (x5_1 < (l0.length : Int)) = false := decide_eq_false c2
    clear c2
    replace H := Option.bind_eq_some_iff.mp H
    obtain ⟨t130, A160, H⟩ := H
    replace H : (if t130 = true then (some (x4_1, true)) else (some ((⟨#[]⟩ : ByteArray), false))) = some (r1, r2) := H
    have A16 := Aside0.mk A160
    clear A160
    by_cases c17 : t130 = true
    ·subst c17
     have H1 : (some (x4_1, true)) = some (r1, r2) := by rw [if_pos rfl] at H; exact H
     clear H
     have H := H1
     clear H1
     simp only [Option.some.injEq, Prod.mk.injEq] at H
     obtain ⟨rfl, rfl⟩ := H
     go_wp2_with (first | ((with_reducible refine gate_callee (f := 80) rfl ?_); refine goesL_ (some 34) rfl rfl Tryz.func80 (by kernel_rfl) rfl #[.string x4_1] rfl (by (try simp only [List.map_toArray, List.map_cons, List.map_nil]); first | done | rfl | (simp only [List.length_drop, List.length_take]; rfl)) ?_; (with_reducible refine (hogsheadref1_May.calls k1 x4_1 true _ A16.out).mono ?_); rintro e w18 ⟨rfl, hb⟩; refine ⟨_, rfl, ?_⟩; have n0_ := Aside0.mk (below_step (by repeat (first | (with_reducible first | exact HB.out | apply below_alloc | apply pw_below_drewN | apply below_drew1) | exact HB.out)) hb); clear HB; have HB := n0_; clear n0_; (try clear hb); (try clear hb2); (try clear hk); (try clear hi)))
     go_ret2
     exact ⟨by first | rfl | (simp [errW_none, errW_some] <;> rfl) | (simp [*, errW_none, errW_some] <;> rfl), by repeat (first | (with_reducible first | exact HB.out | apply below_alloc | apply pw_below_drewN | apply below_drew1) | exact HB.out)⟩
    ·replace c17 := Bool.eq_false_iff.mpr c17
     subst c17
     have H1 : (some ((⟨#[]⟩ : ByteArray), false)) = some (r1, r2) := by rw [if_neg (show ¬ (false = true) by decide)] at H; exact H
     clear H
     have H := H1
     clear H1
     simp only [Option.some.injEq, Prod.mk.injEq] at H
     obtain ⟨rfl, rfl⟩ := H
     go_wp2_with (first | ((with_reducible refine gate_callee (f := 80) rfl ?_); refine goesL_ (some 34) rfl rfl Tryz.func80 (by kernel_rfl) rfl #[.string x4_1] rfl (by (try simp only [List.map_toArray, List.map_cons, List.map_nil]); first | done | rfl | (simp only [List.length_drop, List.length_take]; rfl)) ?_; (with_reducible refine (hogsheadref1_May.calls k1 x4_1 false _ A16.out).mono ?_); rintro e w19 ⟨rfl, hb⟩; refine ⟨_, rfl, ?_⟩; have n0_ := Aside0.mk (below_step (by repeat (first | (with_reducible first | exact HB.out | apply below_alloc | apply pw_below_drewN | apply below_drew1) | exact HB.out)) hb); clear HB; have HB := n0_; clear n0_; (try clear hb); (try clear hb2); (try clear hk); (try clear hi)))
     go_ret2
     exact ⟨by first | rfl | (simp [errW_none, errW_some] <;> rfl) | (simp [*, errW_none, errW_some] <;> rfl), by repeat (first | (with_reducible first | exact HB.out | apply below_alloc | apply pw_below_drewN | apply below_drew1) | exact HB.out)⟩
end Go.Proofs.YtdijnmcfpbceaaaGreatDoor.P

namespace Go.Proofs.YtdijnmcfpbceaaaGreatDoor.P
open Go.Proofs.YtdijnmcfpbceaaaGreatDoor.X
open Go.RowKit Go.Proofs.YtdijnmcfpbceaaaGreatDoorW.PrintWords Go.Proofs.YtdijnmcfpbceaaaGreatDoorW.PrintLast Go.Proofs.YtdijnmcfpbceaaaGreatDoorW.PrintMore
attribute [local go_sem] min2_int min_two
set_option linter.unusedVariables false
set_option linter.unusedSimpArgs false
def hogsheadref1_Parent.f (k : Nat) (a0 : ByteArray) : Option (ByteArray × Bool) := (hogsheadref1_Split.f k a0).bind fun t135 => (if (t135.length : Int) = 0 then (some ((⟨#[]⟩ : ByteArray), false)) else (if 0 ≤ (wrap64 ((t135.length : Int) - 1)) then (if (wrap64 ((t135.length : Int) - 1)) ≤ (t135.length : Int) then ((hogsheadref1_Join.f k (t135.take ((wrap64 ((t135.length : Int) - 1)) : Int).toNat)).bind fun bt142 => (some (bt142.1, bt142.2))) else (none)) else (none)))
set_option maxHeartbeats 8000000 in
set_option maxRecDepth 100000 in
theorem hogsheadref1_Parent.calls (k : Nat) (a0 : ByteArray) (r1 : ByteArray) (r2 : Bool) (w : World) (h : hogsheadref1_Parent.f k a0 = some (r1, r2)) :
  Calls Tryz.prog 63 #[.string a0] w fun e w' => e = .returned (.tuple #[.string r1, .bool r2]) ∧ Below w.heap.size w w' := by
 have HB := Aside0.mk (Below.refl w.heap.size w)
 have H : ((hogsheadref1_Split.f k a0).bind fun t135 => (if (t135.length : Int) = 0 then (some ((⟨#[]⟩ : ByteArray), false)) else (if 0 ≤ (wrap64 ((t135.length : Int) - 1)) then (if (wrap64 ((t135.length : Int) - 1)) ≤ (t135.length : Int) then ((hogsheadref1_Join.f k (t135.take ((wrap64 ((t135.length : Int) - 1)) : Int).toNat)).bind fun bt142 => (some (bt142.1, bt142.2))) else (none)) else (none)))) = some (r1, r2) := h
 clear h
 replace H := Option.bind_eq_some_iff.mp H
 obtain ⟨t135, A20, H⟩ := H
 replace H : (if (t135.length : Int) = 0 then (some ((⟨#[]⟩ : ByteArray), false)) else (if 0 ≤ (wrap64 ((t135.length : Int) - 1)) then (if (wrap64 ((t135.length : Int) - 1)) ≤ (t135.length : Int) then ((hogsheadref1_Join.f k (t135.take ((wrap64 ((t135.length : Int) - 1)) : Int).toNat)).bind fun bt142 => (some (bt142.1, bt142.2))) else (none)) else (none))) = some (r1, r2) := H
 have A2 := Aside0.mk A20
 clear A20
 by_cases c3 : (t135.length : Int) = 0
 ·rw [if_pos c3] at H
  have c3b0 : ((t135.length : Int) == 0) = true := beq_iff_eq.mpr c3
  have c3b1 : ((t135.length : Int) != 0) = false := bne_eq_false_iff_eq.mpr c3
  clear c3
  simp only [Option.some.injEq, Prod.mk.injEq] at H
  obtain ⟨rfl, rfl⟩ := H
  go_enter Tryz.func63, Tryz.ntmps63
  go_wp2_with (first | ((with_reducible refine gate_callee (f := 81) rfl ?_); refine goesL_ (some 6) rfl rfl Tryz.func81 (by kernel_rfl) rfl #[.string a0] rfl (by (try simp only [List.map_toArray, List.map_cons, List.map_nil]); first | done | rfl | (simp only [List.length_drop, List.length_take]; rfl)) ?_; (with_reducible refine (hogsheadref1_Split.calls k a0 t135 _ A2.out).mono ?_); rintro e w4 ⟨v136, rfl, ho0, hb⟩; refine ⟨_, rfl, ?_⟩; have n0_ := Aside0.mk (Kd.R_lower ho0 (below_size (by repeat (first | (with_reducible first | exact HB.out | apply below_alloc | apply pw_below_drewN | apply below_drew1) | exact HB.out)))); have n1_ := Aside0.mk (below_step (by repeat (first | (with_reducible first | exact HB.out | apply below_alloc | apply pw_below_drewN | apply below_drew1) | exact HB.out)) hb); clear HB; have HO137 := n0_; have HB := n1_; clear n0_ n1_; (try clear hb); (try clear hb2); (try clear hk); (try clear hi); (try clear ho0); obtain ⟨Ao5, co5, eo5⟩ := Kd.R_slice HO137.out; subst eo5))
  go_ret2
  exact ⟨by first | rfl | (simp [errW_none, errW_some] <;> rfl) | (simp [*, errW_none, errW_some] <;> rfl), by repeat (first | (with_reducible first | exact HB.out | apply below_alloc | apply pw_below_drewN | apply below_drew1) | exact HB.out)⟩
 ·rw [if_neg c3] at H
  have c3b0 : ((t135.length : Int) == 0) = false := beq_eq_false_iff_ne.mpr c3
  have c3b1 : ((t135.length : Int) != 0) = true := bne_iff_ne.mpr c3
  have c3b2 : ¬ (t135 = []) := fun h_ => c3 (by rw [h_]; rfl)
  obtain ⟨ji6, hji6⟩ : ∃ j_ : Int, (wrap64 ((t135.length : Int) - 1)) = j_ := ⟨_, rfl⟩
  replace H : (if 0 ≤ (ji6) then (if (ji6) ≤ (t135.length : Int) then ((hogsheadref1_Join.f k (t135.take ((ji6) : Int).toNat)).bind fun bt142 => (some (bt142.1, bt142.2))) else (none)) else (none)) = some (r1, r2) := by first | (rw [hji6] at H; exact H) | (simp only [hji6] at H ⊢; exact H)
  (try rw [hji6] at A2)
  have hji6w : (IntKind.i64.wrap ((t135.length : Int) - 1)) = ji6 := (i64_w _).trans hji6
  by_cases c7 : 0 ≤ (ji6)
  ·rw [if_pos c7] at H
   have c7b0 := eq_true c7
   have c7b1 : decide (0 ≤ (ji6)) = true := decide_eq_true c7
   clear c7
   by_cases c8 : (ji6) ≤ (t135.length : Int)
   ·rw [if_pos c8] at H
    have c8b0 := eq_true c8
    have c8b1 : decide ((ji6) ≤ (t135.length : Int)) = true := decide_eq_true c8
    clear c8
    obtain ⟨y138, hy138⟩ : ∃ y_ : List ByteArray, y_ = (t135.take ((ji6) : Int).toNat) := ⟨_, rfl⟩
    replace H : ((hogsheadref1_Join.f k y138).bind fun bt142 => (some (bt142.1, bt142.2))) = some (r1, r2) := by first | (rw [hy138]; with_reducible exact H) | (have H2_ := (Option.bind_some _ _).symm.trans H; rw [hy138]; with_reducible exact H2_) | (have H2_ := (Option.bind_some _ _).symm.trans H; with_reducible exact H2_) | with_reducible exact H | (rw [hy138]; exact H) | exact H
    have Ny138 := Aside0.mk hy138
    clear hy138
    replace H := Option.bind_eq_some_iff.mp H
    obtain ⟨⟨t142, t143⟩, A90, H⟩ := H
    replace H : (some (t142, t143)) = some (r1, r2) := H
    have A9 := Aside0.mk A90
    clear A90
    simp only [Option.some.injEq, Prod.mk.injEq] at H
    obtain ⟨rfl, rfl⟩ := H
    go_enter Tryz.func63, Tryz.ntmps63
    go_wp2_with (first | ((with_reducible refine gate_callee (f := 81) rfl ?_); refine goesL_ (some 6) rfl rfl Tryz.func81 (by kernel_rfl) rfl #[.string a0] rfl (by (try simp only [List.map_toArray, List.map_cons, List.map_nil]); first | done | rfl | (simp only [List.length_drop, List.length_take]; rfl)) ?_; (with_reducible refine (hogsheadref1_Split.calls k a0 t135 _ A2.out).mono ?_); rintro e w10 ⟨v136, rfl, ho0, hb⟩; refine ⟨_, rfl, ?_⟩; have n0_ := Aside0.mk (Kd.R_lower ho0 (below_size (by repeat (first | (with_reducible first | exact HB.out | apply below_alloc | apply pw_below_drewN | apply below_drew1) | exact HB.out)))); have n1_ := Aside0.mk (below_step (by repeat (first | (with_reducible first | exact HB.out | apply below_alloc | apply pw_below_drewN | apply below_drew1) | exact HB.out)) hb); clear HB; have HO137 := n0_; have HB := n1_; clear n0_ n1_; (try clear hb); (try clear hb2); (try clear hk); (try clear hi); (try clear ho0); obtain ⟨Ao11, co11, eo11⟩ := Kd.R_slice HO137.out; subst eo11; have q12 : ((ji6) : Int) ≤ ((t135.length : Int) : Int) := of_decide_eq_true (by first | (with_reducible assumption) | assumption); obtain ⟨i012, hi012, _, hsz12, _⟩ := info_parts info9; have hroom12 : t135.length ≤ co11 := (Kd.R_reads' HO137.out).2.1; have hC12 : Kd.C Kd.string _ Ao11 t135.length t135 := (Kd.R_reads' HO137.out).2.2; have hcut12 := cut_to (P := Tryz.prog) 43 9 .i64 Tryz.underlying43 hi012 Ao11 t135.length co11 (ji6) (of_decide_eq_true (by first | (with_reducible assumption) | assumption)) q12 hroom12; have hr12 := Kd.C_take (m := ((ji6) : Int).toNat) hC12 (by omega); have hy12 : y138.length = ((ji6) : Int).toNat := (by rw [Ny138.out, List.length_take]; omega); rw [← Ny138.out] at hr12; rw [← hy12] at hcut12; have HR141 := Aside0.mk hr12; have HC141 := Aside0.mk (show y138.length ≤ co11 from by omega); clear hr12 hC12 hroom12 hi012 hsz12; have KY12 := Aside0.mk hy12; clear hy12; have KL12 := Aside0.mk (show ((ji6) : Int).toNat ≤ t135.length from by omega); replace q12 := eq_true q12) | ((with_reducible refine gate_callee (f := 82) rfl ?_); refine goesL_ (some 15) rfl rfl Tryz.func82 (by kernel_rfl) rfl #[.slice Ao11 y138.length co11] rfl (by (try simp only [List.map_toArray, List.map_cons, List.map_nil]); first | done | rfl | (simp only [List.length_drop, List.length_take]; rfl)) ?_; (with_reducible refine (hogsheadref1_Join.calls k _ _ y138 t142 t143 _ ?side1 ?side2 A9.out).mono ?_); (case side1 => repeat (first | exact (by repeat (first | (with_reducible exact HR141.out) | (with_reducible refine Kd.C_alloc ?_ _) | (with_reducible refine Kd.C_drewN ?_ _) | (with_reducible refine Kd.C_drew ?_) | exact HR141.out)) | (with_reducible refine Kd.C_alloc ?_ _) | (with_reducible refine Kd.C_drewN ?_ _) | (with_reducible refine Kd.C_drew ?_))); (case side2 => exact HC141.out); rintro e w13 ⟨rfl, hb⟩; refine ⟨_, rfl, ?_⟩; have n0_ := Aside0.mk (Kd.R_below (by (with_reducible repeat (first | apply Kd.R_alloc | apply Kd.R_drewN | apply Kd.R_drew)); exact HO137.out) hb); have n1_ := Aside0.mk (Kd.C_below (by repeat (first | (with_reducible exact HR141.out) | (with_reducible refine Kd.C_alloc ?_ _) | (with_reducible refine Kd.C_drewN ?_ _) | (with_reducible refine Kd.C_drew ?_) | exact HR141.out)) hb); have n2_ := Aside0.mk (below_step (by repeat (first | (with_reducible first | exact HB.out | apply below_alloc | apply pw_below_drewN | apply below_drew1) | exact HB.out)) hb); clear HO137; clear HR141; clear HB; have HO137 := n0_; have HR141 := n1_; have HB := n2_; clear n0_ n1_ n2_; (try clear hb); (try clear hb2); (try clear hk); (try clear hi)))
    go_ret2
    exact ⟨by first | rfl | (simp [errW_none, errW_some] <;> rfl) | (simp only [← hji6]; first | rfl | (simp [errW_none, errW_some] <;> rfl)) | (simp [*, errW_none, errW_some] <;> rfl), by repeat (first | (with_reducible first | exact HB.out | apply below_alloc | apply pw_below_drewN | apply below_drew1) | exact HB.out)⟩
   ·rw [if_neg c8] at H
    exact absurd H (by simp)
  ·rw [if_neg c7] at H
   exact absurd H (by simp)
end Go.Proofs.YtdijnmcfpbceaaaGreatDoor.P

namespace Go.Proofs.YtdijnmcfpbceaaaGreatDoor.X
open Go.RowKit Go.Proofs.YtdijnmcfpbceaaaGreatDoorW.PrintWords Go.Proofs.YtdijnmcfpbceaaaGreatDoorW.PrintLast Go.Proofs.YtdijnmcfpbceaaaGreatDoorW.PrintMore Go.Proofs.YtdijnmcfpbceaaaGreatDoor.P
set_option linter.unusedVariables false
set_option linter.unusedSimpArgs false
theorem baS_append (a b : List UInt8) : baS a ++ baS b = baS (a ++ b) := by
  apply ByteArray.ext
  simp [baS]
theorem baS_size (l : List UInt8) : (baS l).size = l.length := size_mk l
theorem split_eq (s : ByteArray) (hn : s.size ≤ 100000) : Ev (fun k => hogsheadref1_Split.f k s) (if s.data.toList ≠ [] ∧ pathB s.data.toList = true then (cutL 47 s.data.toList).map baS else []) := by
  obtain ⟨K1, h1⟩ := refPath_eq s hn
  obtain ⟨K2, h2⟩ := refCut_eq s hn
  refine ⟨K1 + K2, fun k hk => ?_⟩
  have h1 := h1 k (by omega)
  have h2 := h2 k (by omega)
  simp only at h1 h2
  show hogsheadref1_Split.f k s = _
  unfold hogsheadref1_Split.f
  rw [ByteArray.toList_eq]
  by_cases h0 : s.data.toList = []
  · rw [if_pos h0, if_neg (fun x => x.1 h0)]
  · rw [if_neg h0, h1, Option.bind_some]
    by_cases hp : pathB s.data.toList = true
    · rw [if_pos hp, if_pos ⟨h0, hp⟩, h2, Option.bind_some]
    · rw [if_neg hp, if_neg (fun x => hp x.2)]
theorem join_l0 (ps : List (List UInt8)) (hps : ∀ p ∈ ps, partB p = true) (hl : (joinL 47 ps).length ≤ 200) (hn : ps.length ≤ 1000) (hp : pathB (joinL 47 ps) = true) : ∀ (d i : Nat), ps.length - i = d → i ≤ ps.length →
    Ev (fun k => hogsheadref1_Join.l0 k (ps.map baS) (baS (joinL 47 (ps.take i))) (i : Int)) (baS (joinL 47 ps), true) := by
  intro d
  induction d with
  | zero =>
    intro i hd hi
    obtain ⟨K1, h1⟩ := refPath_eq (baS (joinL 47 ps)) (by rw [baS_size]; omega)
    refine ⟨K1 + 1, fun k hk => ?_⟩
    obtain ⟨k, rfl⟩ : ∃ m, k = m + 1 := ⟨k - 1, by omega⟩
    have h1 := h1 k (by omega)
    simp only at h1
    simp only [hogsheadref1_Join.l0]
    rw [if_neg (by rw [List.length_map]; omega), List.take_of_length_le (by omega), h1, Option.bind_some, ba_list, if_pos hp]
  | succ d ih =>
    intro i hd hi
    have hlt : i < ps.length := by omega
    have hlm : i < (ps.map baS).length := by rw [List.length_map]; exact hlt
    have hjl : (joinL 47 (ps.take (i + 1))).length ≤ 200 := by
      have := joinL_length 47 (ps.take (i + 1)) (ps.drop (i + 1))
      rw [List.take_append_drop] at this
      omega
    have hjl0 : (joinL 47 (ps.take i)).length ≤ 200 := by
      have := joinL_length 47 (ps.take i) (ps.drop i)
      rw [List.take_append_drop] at this
      omega
    have hpl : ps[i].length ≤ 60 := by
      have := hps ps[i] (List.getElem_mem _)
      unfold partB at this
      simp only [Bool.and_eq_true, decide_eq_true_eq] at this
      exact this.1.1.1.1.1.2
    have hrd : rdOf ByteArray.empty (ps.map baS) (i : Int) = baS ps[i] := by
      rw [rdOf_get _ _ hlm, List.getElem_map]
    obtain ⟨K1, h1⟩ := refPart_eq (baS ps[i]) (by rw [baS_size]; omega)
    obtain ⟨K2, h2⟩ := ih (i + 1) (by omega) (by omega)
    refine ⟨K1 + K2 + 2, fun k hk => ?_⟩
    obtain ⟨k, rfl⟩ : ∃ m, k = m + 2 := ⟨k - 2, by omega⟩
    have h1 := h1 (k + 1) (by omega)
    have h2 := h2 k (by omega)
    simp only at h1 h2
    simp only [hogsheadref1_Join.l0]
    rw [if_pos (by omega), if_pos (by omega), hrd, h1, Option.bind_some, ba_list, if_pos (hps _ (List.getElem_mem _))]
    have hno : decide (((baS (joinL 47 (ps.take i))).size : Int) > 200) = false := by
      rw [baS_size, decide_eq_false_iff_not]
      omega
    rw [hno]
    simp only [hogsheadref1_Join.j1]
    rw [if_neg (by decide), hrd]
    have htk : ps.take (i + 1) = ps.take i ++ [ps[i]] := List.take_succ_eq_append_getElem hlt
    by_cases h0 : i = 0
    · subst h0
      rw [if_neg (show ¬ ((0 : Nat) : Int) > 0 by omega), if_pos (by omega), if_pos (by omega), if_pos (by rw [baS_size, baS_size]; omega), wrap_i 0 ps.length hlt (by omega), baS_append]
      rw [htk] at h2
      exact h2
    · rw [if_pos (by omega), if_pos (by rw [baS_size]; omega), if_pos (by omega), if_pos (by omega)]
      have e47 : (⟨#[47]⟩ : ByteArray) = baS [47] := rfl
      rw [e47, baS_append, baS_append, if_pos (by rw [baS_size, baS_size, List.length_append]; simp; omega), wrap_i i ps.length hlt (by omega)]
      rw [htk, joinL_append 47 _ _ (fun e => by have := congrArg List.length e; rw [List.length_take, List.length_nil] at this; omega)] at h2
      rw [List.append_assoc]
      exact h2
theorem refParent_eq (s : ByteArray) (hn : s.size ≤ 100000) : Ev (fun k => hogsheadref1_Parent.f k s) (if s.data.toList ≠ [] ∧ pathB s.data.toList = true then (upS s, true) else (⟨#[]⟩, false)) := by
  obtain ⟨K1, h1⟩ := split_eq s hn
  by_cases hc : s.data.toList ≠ [] ∧ pathB s.data.toList = true
  · have hup := up_path hc.2
    have hcn := cutL_count 47 s.data.toList
    have hcl := data_length s
    have hpp : ∀ p ∈ (cutL 47 s.data.toList).dropLast, partB p = true := fun p hx => by
      have h := hc.2
      unfold pathB at h
      rw [decide_eq_false hc.1, Bool.false_or, Bool.and_eq_true, Bool.and_eq_true, List.all_eq_true] at h
      exact h.1.2 p (List.dropLast_subset _ hx)
    have hul : (joinL 47 (cutL 47 s.data.toList).dropLast).length ≤ 200 := by
      have h := hup
      unfold pathB upB at h
      rw [Bool.or_eq_true, Bool.and_eq_true, Bool.and_eq_true, decide_eq_true_eq, decide_eq_true_eq] at h
      rcases h with h | h
      · rw [h]
        simp
      · exact h.1.1
    have hdl : (cutL 47 s.data.toList).dropLast.length ≤ 1000 := by
      have h := hc.2
      unfold pathB at h
      rw [decide_eq_false hc.1, Bool.false_or, Bool.and_eq_true, decide_eq_true_eq] at h
      rw [List.length_dropLast]
      omega
    obtain ⟨K2, h2⟩ := join_l0 (cutL 47 s.data.toList).dropLast hpp hul hdl hup _ 0 rfl (Nat.zero_le _)
    refine ⟨K1 + K2, fun k hk => ?_⟩
    have h1 := h1 k (by omega)
    have h2 := h2 k (by omega)
    simp only at h1 h2
    show hogsheadref1_Parent.f k s = _
    unfold hogsheadref1_Parent.f
    rw [h1, if_pos hc, Option.bind_some, if_pos hc]
    have hne := cutL_ne 47 s.data.toList
    have hpos : 0 < (cutL 47 s.data.toList).length := List.length_pos_iff.2 hne
    rw [List.length_map, if_neg (by omega)]
    have hw : wrap64 (((cutL 47 s.data.toList).length : Int) - 1) = (((cutL 47 s.data.toList).length - 1 : Nat) : Int) := by
      rw [show ((cutL 47 s.data.toList).length : Int) - 1 = (((cutL 47 s.data.toList).length - 1 : Nat) : Int) from by omega]
      unfold wrap64; omega
    rw [hw, if_pos (by omega), if_pos (by omega), Int.toNat_natCast, ← List.map_take, ← List.dropLast_eq_take]
    have h2' : hogsheadref1_Join.f k ((cutL 47 s.data.toList).dropLast.map baS) = _ := h2
    rw [h2', Option.bind_some]
    rfl
  · refine ⟨K1, fun k hk => ?_⟩
    have h1 := h1 k hk
    simp only at h1
    show hogsheadref1_Parent.f k s = _
    unfold hogsheadref1_Parent.f
    rw [h1, if_neg hc, Option.bind_some, if_neg hc]
    rfl
end Go.Proofs.YtdijnmcfpbceaaaGreatDoor.X

namespace Go.Proofs.YtdijnmcfpbceaaaGreatDoor.P
open Go.Proofs.YtdijnmcfpbceaaaGreatDoor.X
open Go.RowKit Go.Proofs.YtdijnmcfpbceaaaGreatDoorW.PrintWords Go.Proofs.YtdijnmcfpbceaaaGreatDoorW.PrintLast Go.Proofs.YtdijnmcfpbceaaaGreatDoorW.PrintMore
attribute [local go_sem] min2_int min_two
set_option linter.unusedVariables false
set_option linter.unusedSimpArgs false
mutual
def hogsheadref2_Good.j0 : Nat → Bool → ByteArray → Int → ByteArray → Option (Bool)
 | 0, _, _, _, _ => none
 | k + 1, x13, x145000, x145001, x145002 => if x13 = true then (some false) else (if x145001 = 1 then (some (x145002.toList == ([] : List UInt8))) else (if x145001 = 2 then (hogsheadref2_Good.j1 k x145001 (x145001 == 2) x145000 x145001 x145002) else (hogsheadref2_Good.j1 k x145001 (x145001 == 3) x145000 x145001 x145002)))
def hogsheadref2_Good.j1 : Nat → Int → Bool → ByteArray → Int → ByteArray → Option (Bool)
 | 0, _, _, _, _, _ => none
 | k + 1, x15, x21, x145000, x145001, x145002 => if x21 = true then (some true) else (if x15 = 4 then (hogsheadref2_Good.l0 k 0 x145000 x145001 x145002) else (some false))
def hogsheadref2_Good.l0 : Nat → Int → ByteArray → Int → ByteArray → Option (Bool)
 | 0, _, _, _, _ => none
 | k + 1, x3, x145000, x145001, x145002 => if x3 < (x145002.size : Int) then (if 0 ≤ x3 then (if (bt x145002 x3) = 0 then (some false) else (hogsheadref2_Good.l0 k (wrap64 (x3 + 1)) x145000 x145001 x145002)) else (none)) else (some (x145002.toList != ([] : List UInt8)))
end
def hogsheadref2_Good.f (k : Nat) (a0_0 : ByteArray) (a0_1 : Int) (a0_2 : ByteArray) : Option (Bool) := (hogsheadref1_May.f k a0_0).bind fun t145 => (if t145 = true then (hogsheadref2_Good.j0 k (decide ((a0_2.size : Int) > 400)) a0_0 a0_1 a0_2) else (hogsheadref2_Good.j0 k true a0_0 a0_1 a0_2))
set_option maxHeartbeats 8000000 in
set_option maxRecDepth 100000 in
theorem hogsheadref2_Good.calls (k : Nat) (a0_0 : ByteArray) (a0_1 : Int) (a0_2 : ByteArray) (r : Bool) (w : World) (h : hogsheadref2_Good.f k a0_0 a0_1 a0_2 = some r) :
  Calls Tryz.prog 62 #[.agg #[.string a0_0, .int .i64 a0_1, .string a0_2]] w fun e w' => e = .returned (.bool r) ∧ Below w.heap.size w w' := by
 have hu47 := Tryz.underlying47
 have HB := Aside0.mk (Below.refl w.heap.size w)
 have H : ((hogsheadref1_May.f k a0_0).bind fun t145 => (if t145 = true then (hogsheadref2_Good.j0 k (decide ((a0_2.size : Int) > 400)) a0_0 a0_1 a0_2) else (hogsheadref2_Good.j0 k true a0_0 a0_1 a0_2))) = some r := h
 clear h
 have HC2 := Aside0.mk H
 clear H
 go_enter Tryz.func62, Tryz.ntmps62
 go_upto_region 1 with (first | ((with_reducible refine gate_dst (N := 1) rfl ?_); (try (refine gate_guard (by rfl) ?_; dsimp only)); refine box_event ?hg (N := 1) ?hd (cs := #[.string a0_0, .int .i64 a0_1, .string a0_2]) (t := 47) ?hr ?_; (case hd => rfl); (case hg => rfl); (case hr => first | (go_simp; done) | (go_simp; rfl)); intro gb144 hg w3 hbox hb; have n0_ := Aside0.mk (below_step (by repeat (first | (with_reducible first | exact HB.out | apply below_alloc | apply pw_below_drewN | apply below_drew1) | exact HB.out)) hb); have n1_ := Aside0.mk (hbox); have n2_ := Aside0.mk ((by rw [hg]; exact (below_size (by repeat (first | (with_reducible first | exact HB.out | apply below_alloc | apply pw_below_drewN | apply below_drew1) | exact HB.out))) : w.heap.size ≤ gb144)); have n3_ := Aside0.mk ((by rw [hg]; exact (below_size (by repeat (first | (with_reducible first | exact HB.out | apply below_alloc | apply pw_below_drewN | apply below_drew1) | exact HB.out))) : w.heap.size ≤ gb144)); clear HB; have HB := n0_; have BK144 := n1_; have GW144 := n2_; have GE144 := n3_; clear n0_ n1_ n2_ n3_; clear hb hbox hg))
 (try simp only [Act.put, List.setIfInBounds_toArray, List.set_cons_zero, List.set_cons_succ])
 go_cut [13] (fun v13 wc => ∃ (kq : Nat) (x13_1 : Bool), v13 = .bool x13_1 ∧ Aside0 (hogsheadref2_Good.j0 kq x13_1 a0_0 a0_1 a0_2 = some r) ∧ Aside0 (kq ≤ k) ∧ Aside0 (wc.heap[gb144]? = some (.cells #[.string a0_0, .int .i64 a0_1, .string a0_2] 47 (0, 0))) ∧ Aside0 (Below w.heap.size w wc))
 case first =>
  have H := HC2.out
  clear HC2
  replace H := Option.bind_eq_some_iff.mp H
  obtain ⟨t145, A40, H⟩ := H
  replace H : (if t145 = true then (hogsheadref2_Good.j0 k (decide ((a0_2.size : Int) > 400)) a0_0 a0_1 a0_2) else (hogsheadref2_Good.j0 k true a0_0 a0_1 a0_2)) = some r := H
  have A4 := Aside0.mk A40
  clear A40
  by_cases c5 : t145 = true
  ·subst c5
   have H1 : (hogsheadref2_Good.j0 k (decide ((a0_2.size : Int) > 400)) a0_0 a0_1 a0_2) = some r := by rw [if_pos rfl] at H; exact H
   clear H
   have H := H1
   clear H1
   have H' := Aside0.mk H
   clear H
   have hcz6_0 : w3.cell? ⟨gb144, 0, none⟩ = some (.string a0_0) := (blk_cell BK144.out 0).trans rfl
   have hcz6_1 : w3.cell? ⟨gb144, 1, none⟩ = some (.int .i64 a0_1) := (blk_cell BK144.out 1).trans rfl
   have hcz6_2 : w3.cell? ⟨gb144, 2, none⟩ = some (.string a0_2) := (blk_cell BK144.out 2).trans rfl
   have hfz6_0 := blk_frozen BK144.out 0
   have hfz6_1 := blk_frozen BK144.out 1
   have hfz6_2 := blk_frozen BK144.out 2
   go_wp2_with (first | ((with_reducible refine gate_callee (f := 80) rfl ?_); refine goesL_ (some 6) rfl rfl Tryz.func80 (by kernel_rfl) rfl #[.string a0_0] rfl (by (try simp only [List.map_toArray, List.map_cons, List.map_nil]); first | done | rfl | (simp only [List.length_drop, List.length_take]; rfl)) ?_; (with_reducible refine (hogsheadref1_May.calls k a0_0 true _ A4.out).mono ?_); rintro e w7 ⟨rfl, hb⟩; refine ⟨_, rfl, ?_⟩; have n0_ := Aside0.mk (blk_below (g := gb144) (o := .cells #[.string a0_0, .int .i64 a0_1, .string a0_2] 47 (0, 0)) (by (with_reducible repeat (first | refine blk_drewN ?_ _ | refine blk_drew ?_ | refine blk_alloc ?_ _)); exact BK144.out) hb); have n1_ := Aside0.mk (below_step (by repeat (first | (with_reducible first | exact HB.out | apply below_alloc | apply pw_below_drewN | apply below_drew1 | refine below_set ?_ GE144.out) | exact HB.out)) hb); clear BK144; clear HB; have BK144 := n0_; have HB := n1_; clear n0_ n1_; (try clear hb); (try clear hb2); (try clear hk); (try clear hi); have hcz8_0 : w7.cell? ⟨gb144, 0, none⟩ = some (.string a0_0) := (blk_cell BK144.out 0).trans rfl; have hcz8_1 : w7.cell? ⟨gb144, 1, none⟩ = some (.int .i64 a0_1) := (blk_cell BK144.out 1).trans rfl; have hcz8_2 : w7.cell? ⟨gb144, 2, none⟩ = some (.string a0_2) := (blk_cell BK144.out 2).trans rfl; have hfz8_0 := blk_frozen BK144.out 0; have hfz8_1 := blk_frozen BK144.out 1; have hfz8_2 := blk_frozen BK144.out 2))
   go_meet
   case rel => exact ⟨_, (decide ((a0_2.size : Int) > 400)), (by first | rfl | (simp; done) | (simp [*]; done) | exact congrArg Value.bool (nil_ne _) | exact congrArg Value.bool (nil_eq _) | exact congrArg Value.bool (nil_ne' _)), H', ⟨by first | omega | exact Nat.le_refl _⟩, ⟨by (with_reducible repeat (first | refine blk_drewN ?_ _ | refine blk_drew ?_ | refine blk_alloc ?_ _)); exact BK144.out⟩, ⟨by repeat (first | (with_reducible first | exact HB.out | apply below_alloc | apply pw_below_drewN | apply below_drew1 | refine below_set ?_ GE144.out) | exact HB.out)⟩⟩
  ·replace c5 := Bool.eq_false_iff.mpr c5
   subst c5
   have H1 : (hogsheadref2_Good.j0 k true a0_0 a0_1 a0_2) = some r := by rw [if_neg (show ¬ (false = true) by decide)] at H; exact H
   clear H
   have H := H1
   clear H1
   have H' := Aside0.mk H
   clear H
   have hcz9_0 : w3.cell? ⟨gb144, 0, none⟩ = some (.string a0_0) := (blk_cell BK144.out 0).trans rfl
   have hcz9_1 : w3.cell? ⟨gb144, 1, none⟩ = some (.int .i64 a0_1) := (blk_cell BK144.out 1).trans rfl
   have hcz9_2 : w3.cell? ⟨gb144, 2, none⟩ = some (.string a0_2) := (blk_cell BK144.out 2).trans rfl
   have hfz9_0 := blk_frozen BK144.out 0
   have hfz9_1 := blk_frozen BK144.out 1
   have hfz9_2 := blk_frozen BK144.out 2
   go_wp2_with (first | ((with_reducible refine gate_callee (f := 80) rfl ?_); refine goesL_ (some 6) rfl rfl Tryz.func80 (by kernel_rfl) rfl #[.string a0_0] rfl (by (try simp only [List.map_toArray, List.map_cons, List.map_nil]); first | done | rfl | (simp only [List.length_drop, List.length_take]; rfl)) ?_; (with_reducible refine (hogsheadref1_May.calls k a0_0 false _ A4.out).mono ?_); rintro e w10 ⟨rfl, hb⟩; refine ⟨_, rfl, ?_⟩; have n0_ := Aside0.mk (blk_below (g := gb144) (o := .cells #[.string a0_0, .int .i64 a0_1, .string a0_2] 47 (0, 0)) (by (with_reducible repeat (first | refine blk_drewN ?_ _ | refine blk_drew ?_ | refine blk_alloc ?_ _)); exact BK144.out) hb); have n1_ := Aside0.mk (below_step (by repeat (first | (with_reducible first | exact HB.out | apply below_alloc | apply pw_below_drewN | apply below_drew1 | refine below_set ?_ GE144.out) | exact HB.out)) hb); clear BK144; clear HB; have BK144 := n0_; have HB := n1_; clear n0_ n1_; (try clear hb); (try clear hb2); (try clear hk); (try clear hi)))
   go_meet
   case rel => exact ⟨_, (true), (by first | rfl | (simp; done) | (simp [*]; done) | exact congrArg Value.bool (nil_ne _) | exact congrArg Value.bool (nil_eq _) | exact congrArg Value.bool (nil_ne' _)), H', ⟨by first | omega | exact Nat.le_refl _⟩, ⟨by (with_reducible repeat (first | refine blk_drewN ?_ _ | refine blk_drew ?_ | refine blk_alloc ?_ _)); exact BK144.out⟩, ⟨by repeat (first | (with_reducible first | exact HB.out | apply below_alloc | apply pw_below_drewN | apply below_drew1 | refine below_set ?_ GE144.out) | exact HB.out)⟩⟩
 case rest =>
  clear HC2
  try clear p2
  try clear c5
  try clear c6
  try clear c8
  try clear hcz6_0
  try clear hcz6_1
  try clear hcz6_2
  try clear hcz8_0
  try clear hcz8_1
  try clear hcz8_2
  try clear hcz9_0
  try clear hcz9_1
  try clear hcz9_2
  try clear hfz6_0
  try clear hfz6_1
  try clear hfz6_2
  try clear hfz8_0
  try clear hfz8_1
  try clear hfz8_2
  try clear hfz9_0
  try clear hfz9_1
  try clear hfz9_2
  obtain ⟨kq, x13_1, rfl, HA, HJ1, BK144, HB⟩ := hcut
  cases kq with
  | zero => exact absurd HA.out (by simp [hogsheadref2_Good.j0])
  | succ kj1 =>
   have H := HA.out
   clear HA
   simp only [hogsheadref2_Good.j0] at H
   by_cases c11 : x13_1 = true
   ·subst c11
    have H1 : (some false) = some r := by rw [if_pos rfl] at H; exact H
    clear H
    have H := H1
    clear H1
    obtain rfl := Option.some.inj H
    go_wp2
    go_ret
    exact ⟨by first | rfl | (simp [errW_none, errW_some] <;> rfl) | (simp [*, errW_none, errW_some] <;> rfl), by repeat (first | (with_reducible first | exact HB.out | apply below_alloc | apply pw_below_drewN | apply below_drew1 | refine below_set ?_ GE144.out) | exact HB.out)⟩
   ·replace c11 := Bool.eq_false_iff.mpr c11
    subst c11
    have H1 : (if a0_1 = 1 then (some (a0_2.toList == ([] : List UInt8))) else (if a0_1 = 2 then (hogsheadref2_Good.j1 kj1 a0_1 (a0_1 == 2) a0_0 a0_1 a0_2) else (hogsheadref2_Good.j1 kj1 a0_1 (a0_1 == 3) a0_0 a0_1 a0_2))) = some r := by rw [if_neg (show ¬ (false = true) by decide)] at H; exact H
    clear H
    have H := H1
    clear H1
    by_cases c12 : a0_1 = 1
    ·rw [if_pos c12] at H
     have c12b0 : (a0_1 == 1) = true := beq_iff_eq.mpr c12
     have c12b1 : (a0_1 != 1) = false := bne_eq_false_iff_eq.mpr c12
     clear c12
     obtain rfl := Option.some.inj H
     have hcz13_0 : wc.cell? ⟨gb144, 0, none⟩ = some (.string a0_0) := (blk_cell BK144.out 0).trans rfl
     have hcz13_1 : wc.cell? ⟨gb144, 1, none⟩ = some (.int .i64 a0_1) := (blk_cell BK144.out 1).trans rfl
     have hcz13_2 : wc.cell? ⟨gb144, 2, none⟩ = some (.string a0_2) := (blk_cell BK144.out 2).trans rfl
     have hfz13_0 := blk_frozen BK144.out 0
     have hfz13_1 := blk_frozen BK144.out 1
     have hfz13_2 := blk_frozen BK144.out 2
     go_wp2
     go_ret
     exact ⟨by first | rfl | (simp [errW_none, errW_some] <;> rfl) | (simp [*, errW_none, errW_some] <;> rfl), by repeat (first | (with_reducible first | exact HB.out | apply below_alloc | apply pw_below_drewN | apply below_drew1 | refine below_set ?_ GE144.out) | exact HB.out)⟩
    ·rw [if_neg c12] at H
     have c12b0 : (a0_1 == 1) = false := beq_eq_false_iff_ne.mpr c12
     have c12b1 : (a0_1 != 1) = true := bne_iff_ne.mpr c12
     have HC14 := Aside0.mk H
     clear H
     have hcz15_0 : wc.cell? ⟨gb144, 0, none⟩ = some (.string a0_0) := (blk_cell BK144.out 0).trans rfl
     have hcz15_1 : wc.cell? ⟨gb144, 1, none⟩ = some (.int .i64 a0_1) := (blk_cell BK144.out 1).trans rfl
     have hcz15_2 : wc.cell? ⟨gb144, 2, none⟩ = some (.string a0_2) := (blk_cell BK144.out 2).trans rfl
     have hfz15_0 := blk_frozen BK144.out 0
     have hfz15_1 := blk_frozen BK144.out 1
     have hfz15_2 := blk_frozen BK144.out 2
     go_upto_if 21 with (fail)
     go_cut [21] (fun v21 wc => ∃ (kq : Nat) (x21_13 : Bool), v21 = .bool x21_13 ∧ Aside0 (hogsheadref2_Good.j1 kq a0_1 x21_13 a0_0 a0_1 a0_2 = some r) ∧ Aside0 (kq ≤ kj1) ∧ Aside0 (wc.heap[gb144]? = some (.cells #[.string a0_0, .int .i64 a0_1, .string a0_2] 47 (0, 0))) ∧ Aside0 (Below w.heap.size w wc))
     case first =>
      have H := HC14.out
      clear HC14
      by_cases c16 : a0_1 = 2
      ·rw [if_pos c16] at H
       have c16b0 : (a0_1 == 2) = true := beq_iff_eq.mpr c16
       have c16b1 : (a0_1 != 2) = false := bne_eq_false_iff_eq.mpr c16
       clear c16
       (first | rw [c16b0] | (simp only [i64_w, i32_w]; rw [c16b0]) | skip)
       have H' := Aside0.mk H
       clear H
       go_wp2
       go_meet
       case rel => exact ⟨_, ((a0_1 == 2)), (by first | rfl | (simp; done) | (simp [*]; done) | exact congrArg Value.bool (nil_ne _) | exact congrArg Value.bool (nil_eq _) | exact congrArg Value.bool (nil_ne' _)), H', ⟨by have := HJ1.out; first | omega | exact Nat.le_refl _⟩, ⟨by (with_reducible repeat (first | refine blk_drewN ?_ _ | refine blk_drew ?_ | refine blk_alloc ?_ _)); exact BK144.out⟩, ⟨by repeat (first | (with_reducible first | exact HB.out | apply below_alloc | apply pw_below_drewN | apply below_drew1 | refine below_set ?_ GE144.out) | exact HB.out)⟩⟩
      ·rw [if_neg c16] at H
       have c16b0 : (a0_1 == 2) = false := beq_eq_false_iff_ne.mpr c16
       have c16b1 : (a0_1 != 2) = true := bne_iff_ne.mpr c16
       (first | rw [c16b0] | (simp only [i64_w, i32_w]; rw [c16b0]) | skip)
       have H' := Aside0.mk H
       clear H
       go_wp2
       go_meet
       case rel => exact ⟨_, ((a0_1 == 3)), (by first | rfl | (simp; done) | (simp [*]; done) | exact congrArg Value.bool (nil_ne _) | exact congrArg Value.bool (nil_eq _) | exact congrArg Value.bool (nil_ne' _)), H', ⟨by have := HJ1.out; first | omega | exact Nat.le_refl _⟩, ⟨by (with_reducible repeat (first | refine blk_drewN ?_ _ | refine blk_drew ?_ | refine blk_alloc ?_ _)); exact BK144.out⟩, ⟨by repeat (first | (with_reducible first | exact HB.out | apply below_alloc | apply pw_below_drewN | apply below_drew1 | refine below_set ?_ GE144.out) | exact HB.out)⟩⟩
     case rest =>
      clear HC14
      try clear c1
      try clear p2
      try clear c5
      try clear c6
      try clear c8
      try clear c11
      try clear c12
      try clear c12b0
      try clear c12b1
      try clear c16
      try clear c16b0
      try clear c16b1
      try clear hcz13_0
      try clear hcz13_1
      try clear hcz13_2
      try clear hcz15_0
      try clear hcz15_1
      try clear hcz15_2
      try clear hcz6_0
      try clear hcz6_1
      try clear hcz6_2
      try clear hcz8_0
      try clear hcz8_1
      try clear hcz8_2
      try clear hcz9_0
      try clear hcz9_1
      try clear hcz9_2
      try clear hfz13_0
      try clear hfz13_1
      try clear hfz13_2
      try clear hfz15_0
      try clear hfz15_1
      try clear hfz15_2
      try clear hfz6_0
      try clear hfz6_1
      try clear hfz6_2
      try clear hfz8_0
      try clear hfz8_1
      try clear hfz8_2
      try clear hfz9_0
      try clear hfz9_1
      try clear hfz9_2
      try clear p2
      obtain ⟨kq, x21_13, rfl, HA, HJ13, BK144, HB⟩ := hcut
      cases kq with
      | zero => exact absurd HA.out (by simp [hogsheadref2_Good.j1])
      | succ kj13 =>
       have H := HA.out
       clear HA
       simp only [hogsheadref2_Good.j1] at H
       by_cases c17 : x21_13 = true
       ·subst c17
        have H1 : (some true) = some r := by rw [if_pos rfl] at H; exact H
        clear H
        have H := H1
        clear H1
        obtain rfl := Option.some.inj H
        go_wp2
        go_ret
        exact ⟨by first | rfl | (simp [errW_none, errW_some] <;> rfl) | (simp [*, errW_none, errW_some] <;> rfl), by repeat (first | (with_reducible first | exact HB.out | apply below_alloc | apply pw_below_drewN | apply below_drew1 | refine below_set ?_ GE144.out) | exact HB.out)⟩
       ·replace c17 := Bool.eq_false_iff.mpr c17
        subst c17
        have H1 : (if a0_1 = 4 then (hogsheadref2_Good.l0 kj13 0 a0_0 a0_1 a0_2) else (some false)) = some r := by rw [if_neg (show ¬ (false = true) by decide)] at H; exact H
        clear H
        have H := H1
        clear H1
        by_cases c18 : a0_1 = 4
        ·rw [if_pos c18] at H
         have c18b0 : (a0_1 == 4) = true := beq_iff_eq.mpr c18
         have c18b1 : (a0_1 != 4) = false := bne_eq_false_iff_eq.mpr c18
         clear c18
         have H' := Aside0.mk H
         clear H
         go_wp2
         go_loopg [3] kj13 (fun kq v3 w' => ∃ (x3_3 : Int), v3 = .int .i64 x3_3 ∧ Aside0 (hogsheadref2_Good.l0 kq x3_3 a0_0 a0_1 a0_2 = some r) ∧ Aside0 (kq ≤ kj13) ∧ Aside0 (w'.heap[gb144]? = some (.cells #[.string a0_0, .int .i64 a0_1, .string a0_2] 47 (0, 0))) ∧ Aside0 (Below w.heap.size w w'))
         case atStart => exact ⟨(0), (by first | rfl | (simp; done) | (simp [*]; done) | exact congrArg Value.bool (nil_ne _) | exact congrArg Value.bool (nil_eq _) | exact congrArg Value.bool (nil_ne' _)), H', ⟨Nat.le_refl _⟩, ⟨by (with_reducible repeat (first | refine blk_drewN ?_ _ | refine blk_drew ?_ | refine blk_alloc ?_ _)); exact BK144.out⟩, ⟨by repeat (first | (with_reducible first | exact HB.out | apply below_alloc | apply pw_below_drewN | apply below_drew1 | refine below_set ?_ GE144.out) | exact HB.out)⟩⟩
         case round =>
          clear H'
          try clear c1
          try clear p2
          try clear c5
          try clear c6
          try clear c8
          try clear c11
          try clear c12
          try clear c12b0
          try clear c12b1
          try clear c16
          try clear c16b0
          try clear c16b1
          try clear c17
          try clear c18
          try clear c18b0
          try clear c18b1
          try clear hcz13_0
          try clear hcz13_1
          try clear hcz13_2
          try clear hcz15_0
          try clear hcz15_1
          try clear hcz15_2
          try clear hcz6_0
          try clear hcz6_1
          try clear hcz6_2
          try clear hcz8_0
          try clear hcz8_1
          try clear hcz8_2
          try clear hcz9_0
          try clear hcz9_1
          try clear hcz9_2
          try clear hfz13_0
          try clear hfz13_1
          try clear hfz13_2
          try clear hfz15_0
          try clear hfz15_1
          try clear hfz15_2
          try clear hfz6_0
          try clear hfz6_1
          try clear hfz6_2
          try clear hfz8_0
          try clear hfz8_1
          try clear hfz8_2
          try clear hfz9_0
          try clear hfz9_1
          try clear hfz9_2
          try clear p2
          obtain ⟨x3_3, rfl, HA, HK3, BK144, HB⟩ := hrel
          cases gk with
          | zero => exact absurd HA.out (by simp [hogsheadref2_Good.l0])
          | succ k3 =>
           have H := HA.out
           clear HA
           simp only [hogsheadref2_Good.l0] at H
           by_cases c19 : x3_3 < (a0_2.size : Int)
           ·rw [if_pos c19] at H
            have c19b0 : decide (x3_3 < (a0_2.size : Int)) = true := decide_eq_true c19
            clear c19
            by_cases c20 : 0 ≤ x3_3
            ·rw [if_pos c20] at H
             have c20b0 : decide (0 ≤ x3_3) = true := decide_eq_true c20
             clear c20
             by_cases c22 : (bt a0_2 x3_3) = 0
             ·rw [if_pos c22] at H
              have c22b0 : ((bt a0_2 x3_3) == 0) = true := beq_iff_eq.mpr c22
              have c22b1 : ((bt a0_2 x3_3) != 0) = false := bne_eq_false_iff_eq.mpr c22
              clear c22
              obtain rfl := Option.some.inj H
              have hcz23_0 : wr.cell? ⟨gb144, 0, none⟩ = some (.string a0_0) := (blk_cell BK144.out 0).trans rfl
              have hcz23_1 : wr.cell? ⟨gb144, 1, none⟩ = some (.int .i64 a0_1) := (blk_cell BK144.out 1).trans rfl
              have hcz23_2 : wr.cell? ⟨gb144, 2, none⟩ = some (.string a0_2) := (blk_cell BK144.out 2).trans rfl
              have hfz23_0 := blk_frozen BK144.out 0
              have hfz23_1 := blk_frozen BK144.out 1
              have hfz23_2 := blk_frozen BK144.out 2
              have p21 : 0 ≤ (x3_3 : Int) := of_decide_eq_true (by first | (with_reducible assumption) | assumption)
              have q21 : x3_3 < (a0_2.size : Int) := of_decide_eq_true (by first | (with_reducible assumption) | assumption)
              have hx21 := bt_at a0_2 x3_3
              replace p21 := eq_true p21
              replace q21 := eq_true q21
              go_wp2
              go_ret
              exact ⟨by first | rfl | (simp [errW_none, errW_some] <;> rfl) | (simp [*, errW_none, errW_some] <;> rfl), by repeat (first | (with_reducible first | exact HB.out | apply below_alloc | apply pw_below_drewN | apply below_drew1 | refine below_set ?_ GE144.out) | exact HB.out)⟩
             ·rw [if_neg c22] at H
              have c22b0 : ((bt a0_2 x3_3) == 0) = false := beq_eq_false_iff_ne.mpr c22
              have c22b1 : ((bt a0_2 x3_3) != 0) = true := bne_iff_ne.mpr c22
              have H' := Aside0.mk H
              clear H
              have hcz24_0 : wr.cell? ⟨gb144, 0, none⟩ = some (.string a0_0) := (blk_cell BK144.out 0).trans rfl
              have hcz24_1 : wr.cell? ⟨gb144, 1, none⟩ = some (.int .i64 a0_1) := (blk_cell BK144.out 1).trans rfl
              have hcz24_2 : wr.cell? ⟨gb144, 2, none⟩ = some (.string a0_2) := (blk_cell BK144.out 2).trans rfl
              have hfz24_0 := blk_frozen BK144.out 0
              have hfz24_1 := blk_frozen BK144.out 1
              have hfz24_2 := blk_frozen BK144.out 2
              have p21 : 0 ≤ (x3_3 : Int) := of_decide_eq_true (by first | (with_reducible assumption) | assumption)
              have q21 : x3_3 < (a0_2.size : Int) := of_decide_eq_true (by first | (with_reducible assumption) | assumption)
              have hx21 := bt_at a0_2 x3_3
              replace p21 := eq_true p21
              replace q21 := eq_true q21
              go_wp2
              go_roundg k3
              case measure => have := HJ1.out; have := HJ13.out; have := HK3.out; omega
              case rel => exact ⟨(wrap64 (x3_3 + 1)), (by first | rfl | (simp; done) | (simp [*]; done) | exact congrArg Value.bool (nil_ne _) | exact congrArg Value.bool (nil_eq _) | exact congrArg Value.bool (nil_ne' _)), H', ⟨by have := HJ1.out; have := HJ13.out; have := HK3.out; omega⟩, ⟨by (with_reducible repeat (first | refine blk_drewN ?_ _ | refine blk_drew ?_ | refine blk_alloc ?_ _)); exact BK144.out⟩, ⟨by repeat (first | (with_reducible first | exact HB.out | apply below_alloc | apply pw_below_drewN | apply below_drew1 | refine below_set ?_ GE144.out) | exact HB.out)⟩⟩
            ·rw [if_neg c20] at H
             exact absurd H (by simp)
           ·rw [if_neg c19] at H
            have c19b0 : decide (x3_3 < (a0_2.size : Int)) = false := decide_eq_false c19
            clear c19
            obtain rfl := Option.some.inj H
            have hcz25_0 : wr.cell? ⟨gb144, 0, none⟩ = some (.string a0_0) := (blk_cell BK144.out 0).trans rfl
            have hcz25_1 : wr.cell? ⟨gb144, 1, none⟩ = some (.int .i64 a0_1) := (blk_cell BK144.out 1).trans rfl
            have hcz25_2 : wr.cell? ⟨gb144, 2, none⟩ = some (.string a0_2) := (blk_cell BK144.out 2).trans rfl
            have hfz25_0 := blk_frozen BK144.out 0
            have hfz25_1 := blk_frozen BK144.out 1
            have hfz25_2 := blk_frozen BK144.out 2
            go_wp2
            go_ret
            exact ⟨by first | rfl | (simp [errW_none, errW_some] <;> done) | (simp [errW_none, errW_some]; cases a0_2.toList <;> rfl) | (simp [*, errW_none, errW_some] <;> rfl), by repeat (first | (with_reducible first | exact HB.out | apply below_alloc | apply pw_below_drewN | apply below_drew1 | refine below_set ?_ GE144.out) | exact HB.out)⟩
        ·rw [if_neg c18] at H
         have c18b0 : (a0_1 == 4) = false := beq_eq_false_iff_ne.mpr c18
         have c18b1 : (a0_1 != 4) = true := bne_iff_ne.mpr c18
         obtain rfl := Option.some.inj H
         go_wp2
         go_ret
         exact ⟨by first | rfl | (simp [errW_none, errW_some] <;> rfl) | (simp [*, errW_none, errW_some] <;> rfl), by repeat (first | (with_reducible first | exact HB.out | apply below_alloc | apply pw_below_drewN | apply below_drew1 | refine below_set ?_ GE144.out) | exact HB.out)⟩
end Go.Proofs.YtdijnmcfpbceaaaGreatDoor.P

namespace Go.Proofs.YtdijnmcfpbceaaaGreatDoor.P
open Go.Proofs.YtdijnmcfpbceaaaGreatDoor.X
open Go.RowKit Go.Proofs.YtdijnmcfpbceaaaGreatDoorW.PrintWords Go.Proofs.YtdijnmcfpbceaaaGreatDoorW.PrintLast Go.Proofs.YtdijnmcfpbceaaaGreatDoorW.PrintMore
attribute [local go_sem] min2_int min_two
set_option linter.unusedVariables false
set_option linter.unusedSimpArgs false
def hogsheadref2_dir.l0 : Nat → List (S47) → ByteArray → Int → Option (Bool)
 | 0, _, _, _ => none
 | k + 1, x0, x1, x5 => if x5 < (x0.length : Int) then (if 0 ≤ x5 then (if ((rd_T47 x0 x5).f0).toList = x1.toList then (if ((rd_T47 x0 x5).f1) = 1 then (some true) else (hogsheadref2_dir.l0 k x0 x1 (wrap64 (x5 + 1)))) else (hogsheadref2_dir.l0 k x0 x1 (wrap64 (x5 + 1)))) else (none)) else (some false)
def hogsheadref2_dir.f (k : Nat) (l0 : List (S47)) (a1 : ByteArray) : Option (Bool) := hogsheadref2_dir.l0 k l0 a1 0
set_option maxHeartbeats 8000000 in
set_option maxRecDepth 100000 in
theorem hogsheadref2_dir.calls (k : Nat) (A0 : Option Addr) (c0 : Nat) (l0 : List (S47)) (a1 : ByteArray) (r : Bool) (w : World) (hr0 : Kd.C k47 w A0 l0.length l0) (hc0 : l0.length ≤ c0) (h : hogsheadref2_dir.f k l0 a1 = some r) :
  Calls Tryz.prog 64 #[.slice A0 l0.length c0, .string a1] w fun e w' => e = .returned (.bool r) ∧ Drawn0 w w' := by
 have HR0 := Aside0.mk hr0
 have HC0 := Aside0.mk hc0
 clear hr0 hc0
 have H : (hogsheadref2_dir.l0 k l0 a1 0) = some r := h
 clear h
 have H' := Aside0.mk H
 clear H
 go_enter Tryz.func64, Tryz.ntmps64
 go_wp2
 go_loopg [5] k (fun kq v5 w' => ∃ (x5_1 : Int), v5 = .int .i64 x5_1 ∧ Aside0 (hogsheadref2_dir.l0 kq l0 a1 x5_1 = some r) ∧ Aside0 (kq ≤ k) ∧ Drawn0 w w')
 case atStart => exact ⟨(0), (by first | rfl | (simp; done) | (simp [*]; done) | exact congrArg Value.bool (nil_ne _) | exact congrArg Value.bool (nil_eq _) | exact congrArg Value.bool (nil_ne' _)), H', ⟨Nat.le_refl _⟩, by repeat (first | exact Drawn0.refl _ | apply Drawn0.step)⟩
 case round =>
  clear H'
  try clear p2
  obtain ⟨x5_1, rfl, HA, HK1, ⟨m1, rfl⟩⟩ := hrel
  cases gk with
  | zero => exact absurd HA.out (by simp [hogsheadref2_dir.l0])
  | succ k1 =>
   have H := HA.out
   clear HA
   simp only [hogsheadref2_dir.l0] at H
   by_cases c3 : x5_1 < (l0.length : Int)
   ·rw [if_pos c3] at H
    have c3b0 : decide (x5_1 < (l0.length : Int)) = true := decide_eq_true c3
    clear c3
    by_cases c4 : 0 ≤ x5_1
    ·rw [if_pos c4] at H
     have c4b0 : decide (0 ≤ x5_1) = true := decide_eq_true c4
     clear c4
     by_cases c5 : ((rd_T47 l0 x5_1).f0).toList = a1.toList
     ·rw [if_pos c5] at H
      have c5b0 : (((rd_T47 l0 x5_1).f0).toList == a1.toList) = true := beq_iff_eq.mpr c5
      have c5b1 : (((rd_T47 l0 x5_1).f0).toList != a1.toList) = false := bne_eq_false_iff_eq.mpr c5
      clear c5
      by_cases c6 : ((rd_T47 l0 x5_1).f1) = 1
      ·rw [if_pos c6] at H
       have c6b0 : (((rd_T47 l0 x5_1).f1) == 1) = true := beq_iff_eq.mpr c6
       have c6b1 : (((rd_T47 l0 x5_1).f1) != 1) = false := bne_eq_false_iff_eq.mpr c6
       clear c6
       obtain rfl := Option.some.inj H
       have p146 : 0 ≤ (x5_1 : Int) := of_decide_eq_true (by first | (with_reducible assumption) | assumption)
       have q146 : x5_1 < (l0.length : Int) := of_decide_eq_true (by first | (with_reducible assumption) | assumption)
       obtain ⟨ad146, e146, hx146_0, hx146_1, hx146_2⟩ := at_T47 HR0.out x5_1 p146 q146
       cases e146
       replace p146 := eq_true p146
       replace q146 := eq_true q146
       have p147 : 0 ≤ (x5_1 : Int) := of_decide_eq_true (by first | (with_reducible assumption) | assumption)
       have q147 : x5_1 < (l0.length : Int) := of_decide_eq_true (by first | (with_reducible assumption) | assumption)
       obtain ⟨ad147, e147, hx147_0, hx147_1, hx147_2⟩ := at_T47 HR0.out x5_1 p147 q147
       obtain rfl : ad146 = ad147 := (by injection e147)
       replace p147 := eq_true p147
       replace q147 := eq_true q147
       go_wp2
       go_ret
       exact ⟨by first | rfl | (simp; done) | (simp [*]; done), by repeat (first | exact Drawn0.refl _ | apply Drawn0.step)⟩
      ·rw [if_neg c6] at H
       have c6b0 : (((rd_T47 l0 x5_1).f1) == 1) = false := beq_eq_false_iff_ne.mpr c6
       have c6b1 : (((rd_T47 l0 x5_1).f1) != 1) = true := bne_iff_ne.mpr c6
       have H' := Aside0.mk H
       clear H
       have p146 : 0 ≤ (x5_1 : Int) := of_decide_eq_true (by first | (with_reducible assumption) | assumption)
       have q146 : x5_1 < (l0.length : Int) := of_decide_eq_true (by first | (with_reducible assumption) | assumption)
       obtain ⟨ad146, e146, hx146_0, hx146_1, hx146_2⟩ := at_T47 HR0.out x5_1 p146 q146
       cases e146
       replace p146 := eq_true p146
       replace q146 := eq_true q146
       have p147 : 0 ≤ (x5_1 : Int) := of_decide_eq_true (by first | (with_reducible assumption) | assumption)
       have q147 : x5_1 < (l0.length : Int) := of_decide_eq_true (by first | (with_reducible assumption) | assumption)
       obtain ⟨ad147, e147, hx147_0, hx147_1, hx147_2⟩ := at_T47 HR0.out x5_1 p147 q147
       obtain rfl : ad146 = ad147 := (by injection e147)
       replace p147 := eq_true p147
       replace q147 := eq_true q147
       go_wp2
       go_roundg k1
       case measure => have := HK1.out; omega
       case rel => exact ⟨(wrap64 (x5_1 + 1)), (by first | rfl | (simp; done) | (simp [*]; done) | exact congrArg Value.bool (nil_ne _) | exact congrArg Value.bool (nil_eq _) | exact congrArg Value.bool (nil_ne' _)), H', ⟨by have := HK1.out; omega⟩, by repeat (first | exact Drawn0.refl _ | apply Drawn0.step)⟩
     ·rw [if_neg c5] at H
      have c5b0 : (((rd_T47 l0 x5_1).f0).toList == a1.toList) = false := beq_eq_false_iff_ne.mpr c5
      have c5b1 : (((rd_T47 l0 x5_1).f0).toList != a1.toList) = true := bne_iff_ne.mpr c5
      have H' := Aside0.mk H
      clear H
      have p146 : 0 ≤ (x5_1 : Int) := of_decide_eq_true (by first | (with_reducible assumption) | assumption)
      have q146 : x5_1 < (l0.length : Int) := of_decide_eq_true (by first | (with_reducible assumption) | assumption)
      obtain ⟨ad146, e146, hx146_0, hx146_1, hx146_2⟩ := at_T47 HR0.out x5_1 p146 q146
      cases e146
      replace p146 := eq_true p146
      replace q146 := eq_true q146
      go_wp2
      go_roundg k1
      case measure => have := HK1.out; omega
      case rel => exact ⟨(wrap64 (x5_1 + 1)), (by first | rfl | (simp; done) | (simp [*]; done) | exact congrArg Value.bool (nil_ne _) | exact congrArg Value.bool (nil_eq _) | exact congrArg Value.bool (nil_ne' _)), H', ⟨by have := HK1.out; omega⟩, by repeat (first | exact Drawn0.refl _ | apply Drawn0.step)⟩
    ·rw [if_neg c4] at H
     exact absurd H (by simp)
   ·rw [if_neg c3] at H
    have c3b0 : decide (x5_1 < (l0.length : Int)) = false := decide_eq_false c3
    clear c3
    obtain rfl := Option.some.inj H
    go_wp2
    go_ret
    exact ⟨by first | rfl | (simp; done) | (simp [*]; done), by repeat (first | exact Drawn0.refl _ | apply Drawn0.step)⟩
end Go.Proofs.YtdijnmcfpbceaaaGreatDoor.P

namespace Go.Proofs.YtdijnmcfpbceaaaGreatDoor.X
open Go.RowKit Go.Proofs.YtdijnmcfpbceaaaGreatDoorW.PrintWords Go.Proofs.YtdijnmcfpbceaaaGreatDoorW.PrintLast Go.Proofs.YtdijnmcfpbceaaaGreatDoorW.PrintMore Go.Proofs.YtdijnmcfpbceaaaGreatDoor.P
set_option linter.unusedVariables false
set_option linter.unusedSimpArgs false
theorem good_l0 (a : ByteArray) (b : Int) (s : ByteArray) (hn : s.size ≤ 9223372036854775807) : ∀ (d i : Nat), s.size - i = d → i ≤ s.size → Ev (fun k => hogsheadref2_Good.l0 k (i : Int) a b s) (decide ((0 : UInt8) ∉ s.data.toList.drop i) && decide (s.size ≠ 0)) := by
  intro d
  induction d with
  | zero =>
    intro i hd hi
    refine ⟨1, fun k hk => ?_⟩
    obtain ⟨k, rfl⟩ : ∃ m, k = m + 1 := ⟨k - 1, by omega⟩
    simp only [hogsheadref2_Good.l0]
    rw [if_neg (by omega), List.drop_eq_nil_of_le (by rw [data_length]; omega), ByteArray.toList_eq]
    congr 1
    have hl := data_length s
    generalize s.data.toList = l at *
    rw [← hl]
    cases l with
    | nil => rfl
    | cons c l => simp
  | succ d ih =>
    intro i hd hi
    have hlt : i < s.size := by omega
    obtain ⟨K, hK⟩ := ih (i + 1) (by omega) (by omega)
    refine ⟨K + 1, fun k hk => ?_⟩
    obtain ⟨k, rfl⟩ : ∃ m, k = m + 1 := ⟨k - 1, by omega⟩
    have hK := hK k (by omega)
    simp only at hK
    simp only [hogsheadref2_Good.l0]
    rw [if_pos (by omega), if_pos (by omega), bt_nat s i hlt, drop_data s i hlt]
    generalize s.data.toList[i]'(by rw [data_length]; exact hlt) = c at *
    by_cases h2 : c = 0
    · subst h2
      rw [if_pos (by rfl)]
      simp
    · have h2n : ¬ ((c.toNat : Nat) : Int) = 0 := fun e => h2 (UInt8.toNat_inj.1 (by show c.toNat = 0; omega))
      rw [if_neg h2n, wrap_i i s.size hlt hn, hK]
      have e2 : decide ((0 : UInt8) ∉ c :: s.data.toList.drop (i + 1)) = decide ((0 : UInt8) ∉ s.data.toList.drop (i + 1)) := by
        rw [decide_eq_decide, List.mem_cons]
        exact ⟨fun h x => h (.inr x), fun h x => x.elim (fun e => h2 e.symm) h⟩
      rw [e2]
theorem refGood_eq (n : S47) (h0 : n.f0.size ≤ 100000) (h2 : n.f2.size ≤ 100000) : Ev (fun k => hogsheadref2_Good.f k n.f0 n.f1 n.f2) (goodN n) := by
  obtain ⟨K1, h1⟩ := refPath_eq n.f0 h0
  obtain ⟨K2, h2'⟩ := good_l0 n.f0 n.f1 n.f2 (by omega) _ 0 rfl (Nat.zero_le _)
  refine ⟨K1 + K2 + 3, fun k hk => ?_⟩
  obtain ⟨k, rfl⟩ : ∃ m, k = m + 2 := ⟨k - 2, by omega⟩
  have h1 := h1 (k + 2) (by omega)
  have h2' := h2' k (by omega)
  simp only [List.drop_zero] at h1 h2'
  show hogsheadref2_Good.f (k + 2) n.f0 n.f1 n.f2 = _
  unfold hogsheadref2_Good.f goodN
  rw [h1, Option.bind_some]
  cases hp : pathB n.f0.data.toList with
  | false =>
    rw [if_neg (by decide)]
    simp only [hogsheadref2_Good.j0]
    rw [if_pos trivial]
    rfl
  | true =>
    rw [if_pos rfl]
    simp only [hogsheadref2_Good.j0]
    by_cases h4 : n.f2.size ≤ 400
    · rw [if_neg (by rw [decide_eq_true_eq]; omega), decide_eq_true h4]
      simp only [Bool.true_and]
      by_cases k1 : n.f1 = 1
      · rw [if_pos k1, if_pos k1, ByteArray.toList_eq]
        congr 1
        have hl := data_length n.f2
        generalize n.f2.data.toList = l at *
        rw [← hl]
        cases l with
        | nil => rfl
        | cons c l => simp
      · rw [if_neg k1, if_neg k1]
        simp only [hogsheadref2_Good.j1]
        by_cases k2 : n.f1 = 2
        · rw [if_pos k2, if_pos (by rw [k2]; rfl), if_pos (.inl k2)]
        · rw [if_neg k2]
          by_cases k3 : n.f1 = 3
          · rw [if_pos (by rw [k3]; rfl), if_pos (.inr k3)]
          · have e3 : ¬ (n.f1 == 3) = true := fun e => k3 (by simpa using e)
            rw [if_neg e3, if_neg (show ¬ (n.f1 = 2 ∨ n.f1 = 3) from fun x => x.elim k2 k3)]
            by_cases k4 : n.f1 = 4
            · rw [if_pos k4, if_pos k4]
              have h2'' : hogsheadref2_Good.l0 k 0 n.f0 n.f1 n.f2 = _ := h2'
              rw [h2'', Bool.and_comm]
            · rw [if_neg k4, if_neg k4]
    · rw [if_pos (by rw [decide_eq_true_eq]; omega), decide_eq_false h4]
      rfl
theorem dir_l0 (l : List S47) (p : ByteArray) (hn : l.length ≤ 1000000) : ∀ (d i : Nat), l.length - i = d → i ≤ l.length → Ev (fun k => hogsheadref2_dir.l0 k l p (i : Int)) (dirAt (l.drop i) p) := by
  intro d
  induction d with
  | zero =>
    intro i hd hi
    refine ⟨1, fun k hk => ?_⟩
    obtain ⟨k, rfl⟩ : ∃ m, k = m + 1 := ⟨k - 1, by omega⟩
    simp only [hogsheadref2_dir.l0]
    rw [if_neg (by omega), List.drop_eq_nil_of_le (by omega)]
    rfl
  | succ d ih =>
    intro i hd hi
    have hlt : i < l.length := by omega
    obtain ⟨K, hK⟩ := ih (i + 1) (by omega) (by omega)
    refine ⟨K + 1, fun k hk => ?_⟩
    obtain ⟨k, rfl⟩ : ∃ m, k = m + 1 := ⟨k - 1, by omega⟩
    have hK := hK k (by omega)
    simp only at hK
    simp only [hogsheadref2_dir.l0]
    rw [if_pos (by omega), if_pos (by omega), rdN_get l i hlt, wrap_i i l.length hlt (by omega), hK, List.drop_eq_getElem_cons hlt]
    unfold dirAt
    rw [List.any_cons]
    by_cases e0 : l[i].f0 = p
    · rw [if_pos (toList_inj.2 e0), decide_eq_true e0, Bool.true_and]
      by_cases e1 : l[i].f1 = 1
      · rw [if_pos e1, decide_eq_true e1]
        rfl
      · rw [if_neg e1, decide_eq_false e1]
        rfl
    · rw [if_neg (fun x => e0 (toList_inj.1 x)), decide_eq_false e0]
      rfl
theorem dir_eq (l : List S47) (p : ByteArray) (hn : l.length ≤ 1000000) : Ev (fun k => hogsheadref2_dir.f k l p) (dirAt l p) := by
  have := dir_l0 l p hn _ 0 rfl (Nat.zero_le _)
  exact this
end Go.Proofs.YtdijnmcfpbceaaaGreatDoor.X
