/- Part 2 of what is behind the row RowValueOf: XVM, XVQ, XVO, Pf76, XVS, XVT, Pf52, Pf75, Pf53, Pf22, XVL, XRO, Pf28. -/
import Derived.Test.YtbnoihpooeombaaDoorMVO1
import Derived.Outline
import Derived.WalkLawsBesides
import Derived.WalkSpells
import Derived.LoopTactic
import Derived.Lib.Hide
import Derived.Test.YtbnoihpooeombaaDoorProg
import Derived.Below
import Derived.Deep.Draws
import Derived.Deep.AppendLies
import Derived.Maps.AppendAt
import Derived.OwnWalk
import Derived.Laws.BytesArg
import Derived.Laws.MakeOwn
import Derived.Laws.OwnMore
import Derived.Deep.OwnRows
import Derived.Tactics
import Derived.Lib.ConvBytes
import Derived.Laws.Slices
import Derived.WalkKit
import Derived.KernelRfl
import Derived.RowKit3
import Derived.Deep.LoopGhost
import Derived.Deep.QuietTactic
import Derived.BigQuiet
import Derived.WideLaws
import Derived.Deep.DeepCutAuto
import Derived.Deep.CutBlock
import Derived.Deep.RegionHeld3
import Derived.Laws.Rows
import Derived.Lib.AppendStr
import Derived.ArgAppend
import Derived.Laws.IdiomCopy
import Derived.OrdersHeld
import Derived.Laws.BitsLemmas
import Derived.RowKit
import Derived.Laws.Cover1
import Derived.Laws.StructEq
import Derived.Lib.ItoaNum
import Derived.Lib.ItoaMem
import Derived.Deep.AppendSrc
import Derived.Lib.SliceRun
import Derived.Lib.IndexMore
import Derived.Lib.Bytealg
import Derived.Laws.BitsAllLaws
import Derived.Lib.Repeat
import Derived.Deep.DeepMust
import Derived.Lib.ItoaLen
import Derived.SliceStrings
import Derived.Deep.Slices
import Derived.Test.YtbnoihpooeombaaDoorRows
import Derived.ProofKit
import Derived.OpenShut
import Derived.ShutString
import Derived.SizedLaws
import Derived.Deep.DeepHandedRow
import Derived.Lib.LaidTab
import Derived.LaidMore
import Derived.Stop.Joined
import Derived.Shelf.Strings.Builder1
import Derived.Shelf.Strings.Builder2
import Derived.Shelf.Strings.OnBuilder
import Derived.Shelf.Strings.BuilderF
import Derived.Shelf.Strings.BuilderK
import Derived.Shelf.Strconv.Itoa0
import Derived.Shelf.Strconv.Itoa1
import Derived.Shelf.LaysM
import Derived.Shelf.Strconv.Itoa2
import Derived.Shelf.Strconv.Itoa3
import Derived.Shelf.Strings.Prefix
import Derived.Shelf.Bits.Mul64
import Derived.Shelf.Strings.Repeat
import Derived.ChangeSlices
namespace Go.Proofs.YtbnoihpooeombaaDoor.X
open Go.RowKit Go.Proofs.YtbnoihpooeombaaDoorW.PrintWords Go.Proofs.YtbnoihpooeombaaDoorW.PrintLast Go.Proofs.YtbnoihpooeombaaDoorW.PrintMore Go.Proofs.YtbnoihpooeombaaDoor.P
set_option linter.unusedVariables false
set_option linter.unusedSimpArgs false
set_option maxHeartbeats 4000000 in
set_option maxRecDepth 100000 in
theorem qC4 (d : Nat) : ∀ (x : S25) (n cb : Nat) (A4 : Option Addr) (c4 : Nat) (A5 : Option Addr) (c5 : Nat) (w0 w : World) (hr4 : k25.C w0 A4 x.f4.length x.f4) (hc4 : x.f4.length ≤ c4) (hr5 : Kd.string.C w0 A5 x.f5.length x.f5) (hc5 : x.f5.length ≤ c5)
    (h0 : Below w0.heap.size w0 w) (hcb : w0.heap.size ≤ cb) (hb : w.heap[cb]? = some (.cells #[.int .i64 n] 85 (0, 0))) (hn : n ≤ 4000) (hf : ∀ y : S25, y.f4.length ≤ 9223372036854775807 → y.f5.length ≤ 9223372036854775807 → Ev (fun k => value_fields.f k y.f0 y.f1 y.f2 y.f3 y.f4 y.f5) (qBc y)) (hd : d ≤ 1000),
    Calls Tryd.prog 51 #[.pointer (some ⟨cb, 0, none⟩), .agg #[.int .i64 x.f0, .bool x.f1, .int .i64 x.f2, .string x.f3, .slice A4 x.f4.length c4, .slice A5 x.f5.length c5], .int .i64 d] w fun e w' =>
      e = .returned (.bool (mayV d x n).2) ∧ w'.heap[cb]? = some (.cells #[.int .i64 ((mayV d x n).1 : Nat)] 85 (0, 0)) ∧ w.grownBy w' (some cb) := by
  induction d with
  | zero =>
    intro x n cb A4 c4 A5 c5 w0 w hr4 hc4 hr5 hc5 h0 hcb hb hn hf hd
    have hlt : cb < w.heap.size := blk_lt hb
    have hcA : ∀ o, (w.alloc o).cell? ⟨cb, 0, none⟩ = some (.int .i64 n) := fun o => cell_of_one (blk_alloc' hb o)
    have hfA : ∀ o, (w.alloc o).frozen? ⟨cb, 0, none⟩ = false := fun o => qAa (blk_alloc' hb o) 0
    have HB := Aside0.mk hb
    clear hb hr4 hr5 h0
    go_enter Tryd.func51, Tryd.ntmps51
    go_wp2
    go_ret
    obtain ⟨p1, p2⟩ := qG0 (v := .int .i64 ((n : Int) + 1)) HB.out
    exact ⟨rfl, blk_alloc' p1 _, qCi p2 _⟩
  | succ d ih =>
    intro x n cb A4 c4 A5 c5 w0 w hr4 hc4 hr5 hc5 h0 hcb hb hn hf hd
    obtain ⟨K, hK⟩ := hf x hr4.2.1 hr5.2.1
    have hlm : x.f4.length ≤ 9223372036854775807 := hr4.2.1
    have hlt : cb < w.heap.size := blk_lt hb
    have hcA : ∀ o, (w.alloc o).cell? ⟨cb, 0, none⟩ = some (.int .i64 n) := fun o => cell_of_one (blk_alloc' hb o)
    have hfA : ∀ o, (w.alloc o).frozen? ⟨cb, 0, none⟩ = false := fun o => qAa (blk_alloc' hb o) 0
    have HK := Aside0.mk (hK K (Nat.le_refl _))
    clear hK
    have HR4 := Aside0.mk hr4
    have HR5 := Aside0.mk hr5
    have H0 := Aside0.mk h0
    have HB := Aside0.mk hb
    have HF := Aside0.mk hf
    clear hb hr4 hr5 h0 hf
    have hd1 : decide ((d : Int) + 1 < 1) = false := by simp; omega
    have hT : Tabs w → True := fun _ => trivial
    clear hT
    obtain ⟨V, hV⟩ : ∃ V : Array Value, V = #[.int .i64 x.f0, .bool x.f1, .int .i64 x.f2, .string x.f3, .slice A4 x.f4.length c4, .slice A5 x.f5.length c5] := ⟨_, rfl⟩
    have P1 := Aside0.mk (qG0 (v := .int .i64 ((n : Int) + 1)) HB.out)
    have G1 := Aside0.mk (qCi P1.out.2 (.cells #[.int .i64 x.f0, .bool x.f1, .int .i64 x.f2, .string x.f3, .slice A4 x.f4.length c4, .slice A5 x.f5.length c5] 25))
    have B1 := Aside0.mk (blk_alloc' P1.out.1 (.cells #[.int .i64 x.f0, .bool x.f1, .int .i64 x.f2, .string x.f3, .slice A4 x.f4.length c4, .slice A5 x.f5.length c5] 25))
    have X1 := Aside0.mk (qA9 (w.setCell ⟨cb, 0, none⟩ (.int .i64 ((n : Int) + 1))) (.cells #[.int .i64 x.f0, .bool x.f1, .int .i64 x.f2, .string x.f3, .slice A4 x.f4.length c4, .slice A5 x.f5.length c5] 25))
    have hsz : (w.setCell ⟨cb, 0, none⟩ (.int .i64 ((n : Int) + 1))).heap.size = w.heap.size := by simp [World.setCell]
    rw [hsz] at X1
    clear hsz
    go_enter Tryd.func51, Tryd.ntmps51
    go_upto_region 2 with (fail)
    clear hcA hfA
    have GB := Aside0.mk (show w.heap.size ≠ cb by omega)
    have GS := Aside0.mk (Nat.le_refl w.heap.size)
    generalize (w.setCell ⟨cb, 0, none⟩ (.int .i64 ((n : Int) + 1))).alloc (.cells #[.int .i64 x.f0, .bool x.f1, .int .i64 x.f2, .string x.f3, .slice A4 x.f4.length c4, .slice A5 x.f5.length c5] 25) = W1 at *
    have hgb : ∃ gb, gb = w.heap.size := ⟨_, rfl⟩
    obtain ⟨gb, hgb⟩ := hgb
    rw [← hgb] at X1 GB GS ⊢
    clear hgb
    have hc1 := cell_of_one B1.out
    have hx0 : W1.cell? ⟨gb, 0, none⟩ = some (.int .i64 x.f0) := (qAb X1.out 0).trans rfl
    have hx1 : W1.cell? ⟨gb, 1, none⟩ = some (.bool x.f1) := (qAb X1.out 1).trans rfl
    have hx2 : W1.cell? ⟨gb, 2, none⟩ = some (.int .i64 x.f2) := (qAb X1.out 2).trans rfl
    have hx3 : W1.cell? ⟨gb, 3, none⟩ = some (.string x.f3) := (qAb X1.out 3).trans rfl
    have hx4 : W1.cell? ⟨gb, 4, none⟩ = some (.slice A4 x.f4.length c4) := (qAb X1.out 4).trans rfl
    have hx5 : W1.cell? ⟨gb, 5, none⟩ = some (.slice A5 x.f5.length c5) := (qAb X1.out 5).trans rfl
    by_cases hbig : n + 1 > 4000
    · have hbi : decide ((4000 : Int) < (n : Int) + 1) = true := by simp; omega
      go_wp2
      go_ret
      exact ⟨by simp only [mayV, if_pos hbig]; rfl, by simp only [mayV, if_pos hbig]; exact B1.out, G1.out⟩
    · have hbi : decide ((4000 : Int) < (n : Int) + 1) = false := by simp; omega
      have BL1 := Aside0.mk (qCk H0.out G1.out hcb)
      obtain ⟨fb, hfb⟩ : ∃ fb, qBc x = fb := ⟨_, rfl⟩
      rw [hfb] at HK
      have HFB := Aside0.mk hfb
      clear hfb
      cases fb with
      | false =>
        go_wp2_with (go_at_call 74; refine (value_fields.calls K x.f0 x.f1 x.f2 x.f3 A4 c4 x.f4 A5 c5 x.f5 false _ (Kd.C_below HR4.out BL1.out) hc4 (Kd.C_below HR5.out BL1.out) hc5 HK.out).mono ?_; rintro e w2 ⟨rfl, hb⟩; have HB2 := Aside0.mk hb; clear hb)
        go_ret
        refine ⟨by simp only [mayV, if_neg hbig, HFB.out]; rfl, ?_, qDj G1.out HB2.out⟩
        simp only [mayV, if_neg hbig, HFB.out]
        exact qAm B1.out HB2.out
      | true =>
        go_wp2_with (go_at_call 74; refine (value_fields.calls K x.f0 x.f1 x.f2 x.f3 A4 c4 x.f4 A5 c5 x.f5 true _ (Kd.C_below HR4.out BL1.out) hc4 (Kd.C_below HR5.out BL1.out) hc5 HK.out).mono ?_; rintro e w2 ⟨rfl, hb⟩; have HB2 := Aside0.mk hb; clear hb; have hy4 : w2.cell? ⟨gb, 4, none⟩ = some (.slice A4 x.f4.length c4) := (qAb (qAm X1.out HB2.out) 4).trans rfl)
        have B2 := Aside0.mk (qAm B1.out HB2.out)
        have G2 := Aside0.mk (qDj G1.out HB2.out)
        have HM := Aside0.mk (show mayV (d + 1) x n = mayL (mayV d) x.f4 (n + 1) from by simp only [mayV, if_neg hbig, HFB.out, if_true])
        clear HB P1 hc1 hx0 hx1 hx2 hx3 hx4 hx5 hy4 HK HFB
        go_loopw [33] (fun v33 wr => ∃ (i m : Nat), v33 = .int .i64 i ∧ i ≤ x.f4.length ∧ Aside0 (mayL (mayV d) x.f4 (n + 1) = mayL (mayV d) (x.f4.drop i) m) ∧ m ≤ 4000 ∧ Aside0 (wr.heap[cb]? = some (.cells #[.int .i64 m] 85 (0, 0))) ∧ Aside0 (w.grownBy wr (some cb))) (fun v33 _ => x.f4.length - (intOf v33).toNat)
        case atStart => exact ⟨0, n + 1, rfl, by omega, ⟨by rw [List.drop_zero]⟩, by omega, B2, G2⟩
        case round =>
          clear B2 G2
          obtain ⟨i, m, rfl, hi, HL, hm, HB, HG⟩ := hrel
          by_cases hlt2 : i < x.f4.length
          · have BL := Aside0.mk (qCk H0.out HG.out hcb)
            obtain ⟨ad, B4, b4, B5, b5, rfl, z0, z1, z2, z3, z4, z5, l4, g4, l5, g5⟩ := at_T25 HR4.out (i : Int) (by omega) (by omega)
            simp only [Int.toNat_natCast] at z0 z1 z2 z3 z4 z5
            have y0 := qAh BL.out z0
            have y1 := qAh BL.out z1
            have y2 := qAh BL.out z2
            have y3 := qAh BL.out z3
            have y4 := qAh BL.out z4
            have y5 := qAh BL.out z5
            clear z0 z1 z2 z3 z4 z5
            have R4 := Aside0.mk g4
            have R5 := Aside0.mk g5
            clear g4 g5
            have HY := Aside0.mk (show rd_T25 x.f4 (i : Int) = x.f4[i] from by simp [rd_T25, List.getD_eq_getElem?_getD, hlt2])
            generalize rd_T25 x.f4 (i : Int) = y at *
            go_wp2_with fail
            refine (ih y m cb B4 b4 B5 b5 w0 _ R4.out l4 R5.out l5 (qAd BL.out _) hcb (blk_alloc' HB.out _) hm HF.out (by omega)).mono ?_
            rintro e w3 ⟨rfl, hb3, hg3⟩
            have HB3 := Aside0.mk hb3
            have HG3 := Aside0.mk (qBv (qCi HG.out _) hg3)
            clear hb3 hg3
            have hle := qE2 d y m hm
            have HD := Aside0.mk (show x.f4.drop i = y :: x.f4.drop (i + 1) from by rw [HY.out]; exact List.drop_eq_getElem_cons hlt2)
            have HS := Aside0.mk (show mayL (mayV d) (y :: x.f4.drop (i + 1)) m = if (mayV d y m).2 then mayL (mayV d) (x.f4.drop (i + 1)) (mayV d y m).1 else ((mayV d y m).1, false) from rfl)
            obtain ⟨p, q⟩ := hle
            generalize mayV d y m = mv at *
            obtain ⟨m2, b2⟩ := mv
            simp only at p q HB3
            cases b2 with
            | false =>
              go_wp2
              go_ret
              refine ⟨?_, ?_, HG3.out⟩
              · rw [HM.out, HL.out, HD.out, HS.out]; rfl
              · rw [HM.out, HL.out, HD.out, HS.out]; exact HB3.out
            | true =>
              go_wp2
              go_roundw
              case rel => exact ⟨i + 1, m2, by go_num, by omega, ⟨by rw [HL.out, HD.out, HS.out]; rfl⟩, q trivial, HB3, HG3⟩
              case measure => simp [intOf]; omega
          · have hi2 : i = x.f4.length := by omega
            subst hi2
            go_wp2
            go_ret
            refine ⟨?_, ?_, HG.out⟩
            · rw [HM.out, HL.out, List.drop_length]; rfl
            · rw [HM.out, HL.out, List.drop_length]; exact HB.out
end Go.Proofs.YtbnoihpooeombaaDoor.X

namespace Go.Proofs.YtbnoihpooeombaaDoor.X
open Go.RowKit Go.Proofs.YtbnoihpooeombaaDoorW.PrintWords Go.Proofs.YtbnoihpooeombaaDoorW.PrintLast Go.Proofs.YtbnoihpooeombaaDoorW.PrintMore Go.Proofs.YtbnoihpooeombaaDoor.P
set_option linter.unusedVariables false
set_option linter.unusedSimpArgs false
theorem qAz (l : List ByteArray) (j : Nat) (h : j < l.length) : rdOf ByteArray.empty l (j : Int) = l[j] := by
  simp [rdOf, List.getD_eq_getElem?_getD, h]
theorem qGf (l : List ByteArray) (hn : l.length ≤ 9223372036854775807) : ∀ (d i : Nat), l.length - i = d → 1 ≤ i → Ev (fun k => value_rising.l0 k l (i : Int)) (qAw (l.drop (i - 1))) := by
  intro d
  induction d with
  | zero =>
    intro i hd hi
    refine ⟨1, fun k hk => ?_⟩
    obtain ⟨k, rfl⟩ : ∃ m, k = m + 1 := ⟨k - 1, by omega⟩
    simp only [value_rising.l0]
    rw [if_neg (by omega)]
    have : (l.drop (i - 1)).length ≤ 1 := by rw [List.length_drop]; omega
    generalize l.drop (i - 1) = m at *
    match m, this with
    | [], _ => rfl
    | [a], _ => rfl
  | succ d ih =>
    intro i hd hi
    have hlt : i < l.length := by omega
    have hlt2 : i - 1 < l.length := by omega
    obtain ⟨K, hK⟩ := ih (i + 1) (by omega) (by omega)
    refine ⟨K + 1, fun k hk => ?_⟩
    obtain ⟨k, rfl⟩ : ∃ m, k = m + 1 := ⟨k - 1, by omega⟩
    have hK := hK k (by omega)
    simp only at hK
    have EW : Aside0 (wrap64 ((i : Int) - 1) = ((i - 1 : Nat) : Int)) := ⟨by unfold wrap64; omega⟩
    have EV := Aside0.mk (wrap_i i l.length hlt hn)
    simp only [value_rising.l0]
    rw [if_pos (by omega), EW.out, if_pos (by omega), if_pos (by omega), if_pos (by omega), qAz l (i - 1) hlt2, qAz l i hlt, EV.out, hK]
    have e1 : l.drop (i - 1) = l[i - 1] :: l.drop i := by rw [List.drop_eq_getElem_cons hlt2]; congr 2; omega
    have e2 : l.drop i = l[i] :: l.drop (i + 1) := List.drop_eq_getElem_cons hlt
    have e3 : i + 1 - 1 = i := by omega
    rw [e1, e3, e2]
    show _ = some (Op.bytesLess l[i - 1].toList l[i].toList && qAw (l[i] :: l.drop (i + 1)))
    cases Op.bytesLess l[i - 1].toList l[i].toList
    · rw [if_neg (by simp)]; rfl
    · rw [if_pos rfl]; rfl
theorem qGg (l : List ByteArray) (hn : l.length ≤ 9223372036854775807) : Ev (fun k => value_rising.f k l) (qAw l) := by
  have := qGf l hn (l.length - 1) 1 rfl (by omega)
  exact this
theorem qHv (a b : Nat) (ha : a ≤ 9223372036854775807) (hb : b ≤ 9223372036854775807) : (wrap64 ((a : Int) + (b : Int)) = 0) ↔ (a = 0 ∧ b = 0) := by
  unfold wrap64
  omega
theorem qGx (y : S25) (h4 : y.f4.length ≤ 9223372036854775807) (h5 : y.f5.length ≤ 9223372036854775807) : Ev (fun k => value_fields.f k y.f0 y.f1 y.f2 y.f3 y.f4 y.f5) (qBc y) := by
  obtain ⟨K, hK⟩ := qGg y.f5 h5
  refine ⟨K + 2, fun k hk => ?_⟩
  obtain ⟨k, rfl⟩ : ∃ m, k = m + 2 := ⟨k - 2, by omega⟩
  have hK := hK k (by omega)
  simp only at hK
  have hl := qHv y.f4.length y.f5.length h4 h5
  have e3 : (y.f3.toList == ([] : List UInt8)) = (y.f3.size == 0) := by
    rw [Bool.eq_iff_iff, beq_iff_eq, beq_iff_eq]; exact qDr y.f3
  have hl2 : (wrap64 ((y.f4.length : Int) + (y.f5.length : Int)) == 0) = (y.f4.isEmpty && y.f5.isEmpty) := by
    rw [Bool.eq_iff_iff, beq_iff_eq, hl, Bool.and_eq_true, List.isEmpty_iff_length_eq_zero, List.isEmpty_iff_length_eq_zero]
  have hl3 : (wrap64 ((y.f4.length : Int) + (y.f5.length : Int)) = 0) ↔ (y.f4.isEmpty && y.f5.isEmpty) = true := by
    rw [hl, Bool.and_eq_true, List.isEmpty_iff_length_eq_zero, List.isEmpty_iff_length_eq_zero]
  have HL2 := Aside0.mk hl2
  have HL3 := Aside0.mk hl3
  clear hl hl2 hl3
  obtain ⟨f0, f1, f2, f3, f4, f5⟩ := y
  simp only at hK e3 HL2 HL3 h4 h5 ⊢
  have hj : ∀ b : Bool, value_fields.j0 (k + 2) b f0 f1 f2 f3 f4 f5 = some (b && (if f0 = 0 ∨ f0 = 1 ∨ f0 = 3 then f4.isEmpty && f5.isEmpty else if f0 = 2 then f4.isEmpty && f5.isEmpty && decide (-9007199254740992 ≤ f2) && decide (f2 ≤ 9007199254740992) else if f0 = 4 then f5.isEmpty else if f0 = 5 then f5.length == f4.length && qAw f5 else false)) := by
    intro b
    have hE : ∀ c : Bool, value_fields.j0 (k + 2) b f0 f1 f2 f3 f4 f5 = value_fields.j1 (k + 1) b f0 (decide (f0 = 0 ∨ f0 = 1 ∨ f0 = 3)) f0 f1 f2 f3 f4 f5 := by
      intro _
      simp only [value_fields.j0]
      by_cases a0 : f0 = 0
      · subst a0; rw [if_pos rfl, show ((0 : Int) == 0) = decide ((0 : Int) = 0 ∨ (0 : Int) = 1 ∨ (0 : Int) = 3) from by decide]
      rw [if_neg a0]
      by_cases a1 : f0 = 1
      · subst a1; rw [if_pos rfl, show ((1 : Int) == 1) = decide ((1 : Int) = 0 ∨ (1 : Int) = 1 ∨ (1 : Int) = 3) from by decide]
      rw [if_neg a1]
      congr 1
      rw [Bool.eq_iff_iff, beq_iff_eq, decide_eq_true_iff]
      omega
    rw [hE true]
    simp only [value_fields.j1]
    by_cases a : f0 = 0 ∨ f0 = 1 ∨ f0 = 3
    · rw [if_pos (decide_eq_true a), if_pos a, HL2.out]
      cases b <;> simp
    rw [if_neg (by simpa using a), if_neg a]
    by_cases a2 : f0 = 2
    · rw [if_pos a2, if_pos a2]
      cases b
      · simp
      · rw [if_pos rfl]
        by_cases c1 : wrap64 ((f4.length : Int) + (f5.length : Int)) = 0
        · rw [if_pos c1, HL3.out.1 c1]
          by_cases c2 : -9007199254740992 ≤ f2
          · rw [if_pos c2, decide_eq_true c2]; simp
          · rw [if_neg c2, decide_eq_false c2]; simp
        · rw [if_neg c1, Bool.eq_false_iff.2 (fun x => c1 (HL3.out.2 x))]; simp
    rw [if_neg a2, if_neg a2]
    by_cases a4 : f0 = 4
    · rw [if_pos a4, if_pos a4]
      cases b
      · simp
      · rw [if_pos rfl]
        congr 1
        rw [Bool.eq_iff_iff]
        simp [List.isEmpty_iff_length_eq_zero]
    rw [if_neg a4, if_neg a4]
    by_cases a5 : f0 = 5
    · rw [if_pos a5, if_pos a5]
      cases b
      · simp
      · rw [if_pos rfl]
        by_cases c1 : f5.length = f4.length
        · rw [if_pos (by omega), hK]; simp [c1]
        · rw [if_neg (by omega)]; simp [c1]
    · rw [if_neg a5, if_neg a5]; simp
  show value_fields.f (k + 2) f0 f1 f2 f3 f4 f5 = some (qBc ⟨f0, f1, f2, f3, f4, f5⟩)
  unfold qBc value_fields.f
  simp only [hj, e3]
  have b1 : (f0 == 1) = decide (f0 = 1) := by rw [Bool.eq_iff_iff, beq_iff_eq, decide_eq_true_iff]
  have b2 : (f0 == 2) = decide (f0 = 2) := by rw [Bool.eq_iff_iff, beq_iff_eq, decide_eq_true_iff]
  have b3 : (f0 == 3) = decide (f0 = 3) := by rw [Bool.eq_iff_iff, beq_iff_eq, decide_eq_true_iff]
  have b4 : (f2 == 0) = decide (f2 = 0) := by rw [Bool.eq_iff_iff, beq_iff_eq, decide_eq_true_iff]
  rw [b1, b2, b3, b4]
  generalize (if f0 = 0 ∨ f0 = 1 ∨ f0 = 3 then f4.isEmpty && f5.isEmpty else if f0 = 2 then f4.isEmpty && f5.isEmpty && decide (-9007199254740992 ≤ f2) && decide (f2 ≤ 9007199254740992) else if f0 = 4 then f5.isEmpty else if f0 = 5 then f5.length == f4.length && qAw f5 else false) = Z
  clear hK HL2 HL3 hj b1 b2 b3 b4 e3
  by_cases a1 : f0 = 1 <;> by_cases a2 : f0 = 2 <;> by_cases a3 : f0 = 3 <;> by_cases a4 : f2 = 0 <;> cases f1 <;> simp [a1, a2, a3, a4] <;> omega
def value_May.f (a0_0 : Int) (a0_1 : Bool) (a0_2 : Int) (a0_3 : ByteArray) (l0_4 : List S25) (l0_5 : List ByteArray) : Option Bool := some (mayV 16 ⟨a0_0, a0_1, a0_2, a0_3, l0_4, l0_5⟩ 0).2
set_option maxHeartbeats 1600000 in
set_option maxRecDepth 100000 in
theorem value_May.calls (a0_0 : Int) (a0_1 : Bool) (a0_2 : Int) (a0_3 : ByteArray) (A0_4 : Option Addr) (c0_4 : Nat) (l0_4 : List S25) (A0_5 : Option Addr) (c0_5 : Nat) (l0_5 : List ByteArray) (r : Bool) (w : World) (hr0_4 : Kd.C k25 w A0_4 l0_4.length l0_4) (hc0_4 : l0_4.length ≤ c0_4) (hr0_5 : Kd.C Kd.string w A0_5 l0_5.length l0_5) (hc0_5 : l0_5.length ≤ c0_5) (h : value_May.f a0_0 a0_1 a0_2 a0_3 l0_4 l0_5 = some r) :
    Calls Tryd.prog 21 #[.agg #[.int .i64 a0_0, .bool a0_1, .int .i64 a0_2, .string a0_3, .slice A0_4 l0_4.length c0_4, .slice A0_5 l0_5.length c0_5]] w fun e w' => e = .returned (.bool r) ∧ Below w.heap.size w w' := by
  cases h
  have HR4 := Aside0.mk hr0_4
  have HR5 := Aside0.mk hr0_5
  have HB := Aside0.mk (Below.refl w.heap.size w)
  clear hr0_4 hr0_5
  go_enter Tryd.func21, Tryd.ntmps21
  go_wp2_with fail
  refine (qC4 16 ⟨a0_0, a0_1, a0_2, a0_3, l0_4, l0_5⟩ 0 (w.heap.size + 1) A0_4 c0_4 A0_5 c0_5 w _ HR4.out hc0_4 HR5.out hc0_5 (qAd (qAd HB.out _) _) (by omega) (by show ((w.heap.push _).push _)[_]? = _; rw [Array.getElem?_push, if_pos (by rw [Array.size_push])]; rfl) (by omega) qGx (by omega)).mono ?_
  rintro e w2 ⟨rfl, hb2, hg2⟩
  have HB2 := Aside0.mk (qCk (qAd (qAd HB.out _) _) hg2 (show w.heap.size ≤ w.heap.size + 1 by omega))
  clear hb2 hg2
  go_wp2
  go_ret
  exact ⟨rfl, HB2.out⟩
end Go.Proofs.YtbnoihpooeombaaDoor.X

namespace Go.Proofs.YtbnoihpooeombaaDoor.X
open Go.RowKit Go.Proofs.YtbnoihpooeombaaDoorW.PrintWords Go.Proofs.YtbnoihpooeombaaDoorW.PrintLast Go.Proofs.YtbnoihpooeombaaDoorW.PrintMore Go.Proofs.YtbnoihpooeombaaDoor.P
set_option linter.unusedVariables false
set_option linter.unusedSimpArgs false
theorem qGv {α : Type} {d : Kd α} {w : World} {A : Option Addr} {n : Nat} {xs : List α} (h : d.C w A n xs) (hz : 0 < d.sz) :
    ∃ news : List Value, news.length = xs.length * d.sz ∧ Reps (d.K w) d.sz xs news ∧ (∀ ad, A = some ad → ∀ j u, news[j]? = some u → w.cell? (ad.add j) = some u) ∧ (∀ u ∈ news, u.oneCell' = true) ∧ (A = none → xs.length = 0) := by
  have hone : ∀ news : List Value, Reps (d.K w) d.sz xs news → ∀ u ∈ news, u.oneCell' = true := by
    intro news hr u hu
    obtain ⟨j, hj, rfl⟩ := List.mem_iff_getElem.1 hu
    have hl := hr.1
    have hq : j / d.sz < xs.length := by
      rw [Nat.div_lt_iff_lt_mul hz]; omega
    have hK := hr.2 (j / d.sz) _ (List.getElem?_eq_getElem hq)
    refine d.K_one hK _ ?_
    have hm : j / d.sz * d.sz + j % d.sz = j := Nat.div_add_mod' j d.sz
    have hlt := Nat.mod_lt j hz
    refine List.mem_iff_getElem?.2 ⟨j % d.sz, ?_⟩
    rw [List.getElem?_take_of_lt hlt, List.getElem?_drop, hm, List.getElem?_eq_getElem hj]
  cases A with
  | none =>
    have h0 : xs.length = 0 := by
      rcases Nat.eq_zero_or_pos n with h0 | h0
      · rw [h.1, h0]
      · obtain ⟨ad, e, _⟩ := h.2.2 h0
        cases e
    have hx : xs = [] := List.length_eq_zero_iff.1 h0
    subst hx
    exact ⟨[], by simp, Reps.none _ _, (fun ad e => by cases e), (fun u hu => by cases hu), (fun _ => rfl)⟩
  | some ad =>
    have hn : n = xs.length := h.1.symm
    subst hn
    obtain ⟨news, hr, hc⟩ := qA8.inner_ h
    exact ⟨news, hr.1, hr, fun ad2 e j u hj => by cases e; exact hc j u hj, hone news hr, fun e => by cases e⟩
theorem blk_set {w : World} {g t j : Nat} {cs : Array Value} {v : Value} (h : w.heap[g]? = some (.cells cs t (0, 0))) : (w.setCell ⟨g, j, none⟩ v).heap[g]? = some (.cells (cs.setIfInBounds j v) t (0, 0)) := by
  simp [World.setCell, Array.getElem?_modify, h]
theorem qAu {w : World} {g k j : Nat} {v : Value} (hne : k ≠ g) : (w.setCell ⟨g, j, none⟩ v).heap[k]? = w.heap[k]? := by
  simp [World.setCell, Array.getElem?_modify, Ne.symm hne]
theorem qCo (w : World) (a : Addr) (v : Value) : (w.setCell a v).heap.size = w.heap.size := by simp [World.setCell]
theorem qBy {w : World} {base e size n g j : Nat} {v u : Value} {xs : List Value} (h : w.ownsRow base e size v n xs) (hg : g < base) : (w.setCell ⟨g, j, none⟩ u).ownsRow base e size v n xs :=
  qBk h (fun k hk => qAu (by have := qA1 h k hk; omega))
theorem qA2 {w w1 : World} {base e size n : Nat} {v : Value} {xs : List Value} (h : w.ownsRow base e size v n xs) (hb : Below w.heap.size w w1) : w1.ownsRow base e size v n xs :=
  qBk h (fun k hk => hb.block k (own_lt h k hk))
theorem qB6 {w : World} {g t : Nat} {v0 v1 v2 v3 v4 v5 : Value} (u0 u1 u2 u3 u4 u5 : Value) (h : w.heap[g]? = some (.cells #[v0, v1, v2, v3, v4, v5] t (0, 0))) :
    ((((((w.setCell ⟨g, 0, none⟩ u0).setCell ⟨g, 1, none⟩ u1).setCell ⟨g, 2, none⟩ u2).setCell ⟨g, 3, none⟩ u3).setCell ⟨g, 4, none⟩ u4).setCell ⟨g, 5, none⟩ u5).heap[g]? = some (.cells #[u0, u1, u2, u3, u4, u5] t (0, 0)) :=
  blk_set (blk_set (blk_set (blk_set (blk_set (blk_set h)))))
theorem qBf {w0 w : World} {g : Nat} (u0 u1 u2 u3 u4 u5 : Value) (h : Below w0.heap.size w0 w) (hg : w0.heap.size ≤ g) (o : Nat) :
    Below w0.heap.size w0 ((((((w.setCell ⟨g, o, none⟩ u0).setCell ⟨g, o + 1, none⟩ u1).setCell ⟨g, o + 2, none⟩ u2).setCell ⟨g, o + 3, none⟩ u3).setCell ⟨g, o + 4, none⟩ u4).setCell ⟨g, o + 5, none⟩ u5) :=
  qAf (qAf (qAf (qAf (qAf (qAf h hg) hg) hg) hg) hg) hg
theorem qBx {w : World} {g k : Nat} (u0 u1 u2 u3 u4 u5 : Value) (o : Nat) (hne : k ≠ g) :
    ((((((w.setCell ⟨g, o, none⟩ u0).setCell ⟨g, o + 1, none⟩ u1).setCell ⟨g, o + 2, none⟩ u2).setCell ⟨g, o + 3, none⟩ u3).setCell ⟨g, o + 4, none⟩ u4).setCell ⟨g, o + 5, none⟩ u5).heap[k]? = w.heap[k]? := by
  rw [qAu hne, qAu hne, qAu hne, qAu hne, qAu hne, qAu hne]
theorem qG9 {w : World} {g t k : Nat} {cs : Array Value} (h : w.heap[g]? = some (.cells cs t (0, 0))) (hk : k < cs.size) : ∃ v, w.cell? ⟨g, k, none⟩ = some v :=
  ⟨cs[k], by rw [qAb h k, Array.getElem?_eq_getElem hk]⟩
def six (cur : Array Value) (o : Nat) (u0 u1 u2 u3 u4 u5 : Value) : Array Value := (((((cur.setIfInBounds o u0).setIfInBounds (o + 1) u1).setIfInBounds (o + 2) u2).setIfInBounds (o + 3) u3).setIfInBounds (o + 4) u4).setIfInBounds (o + 5) u5
theorem qHr {w : World} {g t o : Nat} {cur : Array Value} (u0 u1 u2 u3 u4 u5 : Value) (h : w.heap[g]? = some (.cells cur t (0, 0))) :
    ((((((w.setCell ⟨g, o, none⟩ u0).setCell ⟨g, o + 1, none⟩ u1).setCell ⟨g, o + 2, none⟩ u2).setCell ⟨g, o + 3, none⟩ u3).setCell ⟨g, o + 4, none⟩ u4).setCell ⟨g, o + 5, none⟩ u5).heap[g]? = some (.cells (six cur o u0 u1 u2 u3 u4 u5) t (0, 0)) :=
  blk_set (blk_set (blk_set (blk_set (blk_set (blk_set h)))))
theorem qG6 (cur : Array Value) (o : Nat) (u0 u1 u2 u3 u4 u5 : Value) : (six cur o u0 u1 u2 u3 u4 u5).size = cur.size := by simp [six]
theorem qGd (cur : Array Value) (o k : Nat) (u0 u1 u2 u3 u4 u5 : Value) (hfit : o + 6 ≤ cur.size) : (six cur o u0 u1 u2 u3 u4 u5)[k]? = if k = o + 5 then some u5 else if k = o + 4 then some u4 else if k = o + 3 then some u3 else if k = o + 2 then some u2 else if k = o + 1 then some u1 else if k = o then some u0 else cur[k]? := by
  unfold six
  simp only [Array.getElem?_setIfInBounds, Array.size_setIfInBounds]
  by_cases h5 : k = o + 5
  · rw [if_pos h5.symm, if_pos (by omega), if_pos h5]
  rw [if_neg (Ne.symm h5), if_neg h5]
  by_cases h4 : k = o + 4
  · rw [if_pos h4.symm, if_pos (by omega), if_pos h4]
  rw [if_neg (Ne.symm h4), if_neg h4]
  by_cases h3 : k = o + 3
  · rw [if_pos h3.symm, if_pos (by omega), if_pos h3]
  rw [if_neg (Ne.symm h3), if_neg h3]
  by_cases h2 : k = o + 2
  · rw [if_pos h2.symm, if_pos (by omega), if_pos h2]
  rw [if_neg (Ne.symm h2), if_neg h2]
  by_cases h1 : k = o + 1
  · rw [if_pos h1.symm, if_pos (by omega), if_pos h1]
  rw [if_neg (Ne.symm h1), if_neg h1]
  by_cases h0 : k = o
  · rw [if_pos h0.symm, if_pos (by omega), if_pos h0]
  rw [if_neg (Ne.symm h0), if_neg h0]
theorem seg_get (c : Array Value) (a q : Nat) : ((c.toList.drop a).take 6)[q]? = if q < 6 then c[a + q]? else none := by
  rw [List.getElem?_take, List.getElem?_drop]
  simp
theorem qG7 (cur : Array Value) (i : Nat) (u0 u1 u2 u3 u4 u5 : Value) (hfit : i * 6 + 6 ≤ cur.size) : ((six cur (i * 6) u0 u1 u2 u3 u4 u5).toList.drop (i * 6)).take 6 = [u0, u1, u2, u3, u4, u5] := by
  apply List.ext_getElem?
  intro q
  rw [seg_get, qGd _ _ _ _ _ _ _ _ _ hfit]
  match q with
  | 0 => rw [if_pos (by omega), if_neg (by omega), if_neg (by omega), if_neg (by omega), if_neg (by omega), if_neg (by omega), if_pos (by omega)]; rfl
  | 1 => rw [if_pos (by omega), if_neg (by omega), if_neg (by omega), if_neg (by omega), if_neg (by omega), if_pos (by omega)]; rfl
  | 2 => rw [if_pos (by omega), if_neg (by omega), if_neg (by omega), if_neg (by omega), if_pos (by omega)]; rfl
  | 3 => rw [if_pos (by omega), if_neg (by omega), if_neg (by omega), if_pos (by omega)]; rfl
  | 4 => rw [if_pos (by omega), if_neg (by omega), if_pos (by omega)]; rfl
  | 5 => rw [if_pos (by omega), if_pos (by omega)]; rfl
  | q + 6 => rw [if_neg (by omega)]; rfl
theorem qEd (cur : Array Value) (i j : Nat) (u0 u1 u2 u3 u4 u5 : Value) (hfit : i * 6 + 6 ≤ cur.size) (hne : j ≠ i) : ((six cur (i * 6) u0 u1 u2 u3 u4 u5).toList.drop (j * 6)).take 6 = (cur.toList.drop (j * 6)).take 6 := by
  apply List.ext_getElem?
  intro q
  rw [seg_get, seg_get, qGd _ _ _ _ _ _ _ _ _ hfit]
  by_cases hq : q < 6
  · rw [if_pos hq, if_pos hq, if_neg (by omega), if_neg (by omega), if_neg (by omega), if_neg (by omega), if_neg (by omega), if_neg (by omega)]
  · rw [if_neg hq, if_neg hq]
theorem qBq {w : World} {base e size n : Nat} {v : Value} {xs : List Value} (h : w.ownsRow base e size v n xs) : ∃ a c, v = .slice a n c := by
  rcases h.2 with ⟨rfl, rfl⟩ | ⟨g, cap, cur, rfl, _⟩
  · exact ⟨none, 0, rfl⟩
  · exact ⟨_, _, rfl⟩
def smallV : Nat → S25 → Prop
  | 0, _ => False
  | d + 1, x => x.f4.length ≤ 100000 ∧ x.f5.length ≤ 100000 ∧ ∀ y ∈ x.f4, smallV d y
set_option maxHeartbeats 4000000 in
set_option maxRecDepth 100000 in
theorem qEl (d : Nat) : ∀ (x : S25) (A4 : Option Addr) (c4 : Nat) (A5 : Option Addr) (c5 : Nat) (w : World) (hs : smallV d x) (hr4 : k25.C w A4 x.f4.length x.f4) (hc4 : x.f4.length ≤ c4) (hr5 : Kd.string.C w A5 x.f5.length x.f5) (hc5 : x.f5.length ≤ c5),
    Calls Tryd.prog 50 #[.agg #[.int .i64 x.f0, .bool x.f1, .int .i64 x.f2, .string x.f3, .slice A4 x.f4.length c4, .slice A5 x.f5.length c5]] w fun e w' =>
      ∃ v4 v5 : Value, e = .returned (.agg #[.int .i64 x.f0, .bool x.f1, .int .i64 x.f2, .string x.f3, v4, v5]) ∧ k25.R 25 w' w.heap.size (fun k_ => some k_ ≠ (v5 : Value).ownBlock) v4 x.f4 ∧ Kd.string.R 9 w' w.heap.size (fun _ => True) v5 x.f5 ∧ Below w.heap.size w w' := by
  induction d with
  | zero => intro x A4 c4 A5 c5 w hs; exact hs.elim
  | succ d ih =>
    intro x A4 c4 A5 c5 w hs hr4 hc4 hr5 hc5
    obtain ⟨hs4, hs5, hse⟩ := hs
    have HR4 := Aside0.mk hr4
    have HR5 := Aside0.mk hr5
    have HSE := Aside0.mk hse
    obtain ⟨n4, N4l, N4r, N4c, N4o, A4n⟩ : ∃ news : List Value, news.length = x.f4.length * 6 ∧ Reps (k25.K w) 6 x.f4 news ∧ (∀ ad, A4 = some ad → ∀ j u, news[j]? = some u → w.cell? (ad.add j) = some u) ∧ (∀ u ∈ news, u.oneCell' = true) ∧ (A4 = none → x.f4.length = 0) := qGv (d := k25) hr4 (by decide)
    obtain ⟨n5, N5l, N5r, N5c, N5o, A5n⟩ : ∃ news : List Value, news.length = x.f5.length * 1 ∧ Reps (Kd.string.K w) 1 x.f5 news ∧ (∀ ad, A5 = some ad → ∀ j u, news[j]? = some u → w.cell? (ad.add j) = some u) ∧ (∀ u ∈ news, u.oneCell' = true) ∧ (A5 = none → x.f5.length = 0) := qGv (d := Kd.string) hr5 (by decide)
    clear hr4 hr5 hse
    go_enter Tryd.func50, Tryd.ntmps50
    go_wp2_with fail
    have hB0 := qAd (qAd (Below.refl w.heap.size w) (.cells #[.int .i64 x.f0, .bool x.f1, .int .i64 x.f2, .string x.f3, .slice A4 x.f4.length c4, .slice A5 x.f5.length c5] 25)) (.cells #[.int .i64 0, .bool false, .int .i64 0, .string ⟨#[]⟩, .slice none 0 0, .slice none 0 0] 25)
    have HX0 := Aside0.mk (blk_alloc' (qA9 w (.cells #[.int .i64 x.f0, .bool x.f1, .int .i64 x.f2, .string x.f3, .slice A4 x.f4.length c4, .slice A5 x.f5.length c5] 25)) (.cells #[.int .i64 0, .bool false, .int .i64 0, .string ⟨#[]⟩, .slice none 0 0, .slice none 0 0] 25))
    have hsz1 : (w.alloc (.cells #[.int .i64 x.f0, .bool x.f1, .int .i64 x.f2, .string x.f3, .slice A4 x.f4.length c4, .slice A5 x.f5.length c5] 25)).heap.size = w.heap.size + 1 := by simp [World.alloc, -World.alloc_eq]
    have HY0 := Aside0.mk (qA9 (w.alloc (.cells #[.int .i64 x.f0, .bool x.f1, .int .i64 x.f2, .string x.f3, .slice A4 x.f4.length c4, .slice A5 x.f5.length c5] 25)) (.cells #[.int .i64 0, .bool false, .int .i64 0, .string ⟨#[]⟩, .slice none 0 0, .slice none 0 0] 25))
    rw [hsz1] at HY0
    clear hsz1
    generalize (w.alloc (.cells #[.int .i64 x.f0, .bool x.f1, .int .i64 x.f2, .string x.f3, .slice A4 x.f4.length c4, .slice A5 x.f5.length c5] 25)).alloc (.cells #[.int .i64 0, .bool false, .int .i64 0, .string ⟨#[]⟩, .slice none 0 0, .slice none 0 0] 25) = W1 at *
    refine (qEr A5 x.f5.length c5 n5 W1 A5n N5l (by omega) (fun ad e j u hj => qAh hB0 (N5c ad e j u hj)) N5o).mono ?_
    rintro e w2 ⟨v5, rfl, ho5, hb2⟩
    obtain ⟨a5, b5, rfl⟩ := qBq ho5
    have HO5 := Aside0.mk ho5
    have HB2 := Aside0.mk (qAj hB0 hb2)
    have HX2 := Aside0.mk (qAm HX0.out hb2)
    have HY2 := Aside0.mk (qAm HY0.out hb2)
    have hW1 : w.heap.size + 1 < W1.heap.size := blk_lt HY0.out
    have hb2s := hb2.size
    clear ho5 hb2 hB0 HX0 HY0
    have hxa := qAb HX2.out 5
    have hxb := qAa HX2.out 5
    have hxc := qAb HX2.out 4
    go_wp2_with fail
    have hB3 := qAf (v := .slice a5 x.f5.length b5) (j := 5) HB2.out (Nat.le_refl _)
    have HX3 := Aside0.mk (blk_set (j := 5) (v := .slice a5 x.f5.length b5) HX2.out)
    have HY3 := Aside0.mk ((qAu (w := w2) (g := w.heap.size) (k := w.heap.size + 1) (j := 5) (v := .slice a5 x.f5.length b5) (by omega)).trans HY2.out)
    have HO5b := Aside0.mk (qBy (g := w.heap.size) (j := 5) (u := .slice a5 x.f5.length b5) HO5.out (by omega))
    have hsz3 := qCo w2 ⟨w.heap.size, 5, none⟩ (.slice a5 x.f5.length b5)
    clear hxa hxb hxc HX2 HY2 HO5 HB2
    generalize w2.setCell ⟨w.heap.size, 5, none⟩ (.slice a5 x.f5.length b5) = W3 at *
    refine (qEq A4 x.f4.length c4 n4 W3 A4n N4l (by omega) (fun ad e j u hj => qAh hB3 (N4c ad e j u hj)) N4o).mono ?_
    rintro e w4 ⟨v4, rfl, ho4, hb4⟩
    obtain ⟨a4, b4, rfl⟩ := qBq ho4
    have hB4 := qAj hB3 hb4
    have HX4 := Aside0.mk (qAm HX3.out hb4)
    have HY4 := Aside0.mk (qAm HY3.out hb4)
    have HO5c := Aside0.mk (qA2 HO5b.out hb4)
    have HO4 := Aside0.mk ho4
    have hsz4 := hb4.size
    have K5a : ∀ k, (Value.slice a5 x.f5.length b5).ownBlock = some k → k < W3.heap.size := fun k hk => own_lt HO5b.out k hk
    clear ho4 hb4 hB3 HX3 HY3 HO5b
    have hxa := qAb HX4.out 4
    have hxb := qAa HX4.out 4
    go_wp2_with fail
    have hB5 := qAf (v := .slice a4 x.f4.length b4) (j := 4) hB4 (Nat.le_refl _)
    have HX5 := Aside0.mk (blk_set (j := 4) (v := .slice a4 x.f4.length b4) HX4.out)
    have HY5 := Aside0.mk ((qAu (w := w4) (g := w.heap.size) (k := w.heap.size + 1) (j := 4) (v := .slice a4 x.f4.length b4) (by omega)).trans HY4.out)
    have HS5 := Aside0.mk (qBy (g := w.heap.size) (j := 4) (u := .slice a4 x.f4.length b4) HO5c.out (by omega))
    have HV5 := Aside0.mk (qBy (g := w.heap.size) (j := 4) (u := .slice a4 x.f4.length b4) HO4.out (by omega))
    have HB5 := Aside0.mk hB5
    clear hB4 hB5 HX4 HY4 HO5c HO4 hxa hxb
    generalize w4.setCell ⟨w.heap.size, 4, none⟩ (.slice a4 x.f4.length b4) = W5 at *
    have hX : (((#[.int .i64 x.f0, .bool x.f1, .int .i64 x.f2, .string x.f3, .slice A4 x.f4.length c4, .slice A5 x.f5.length c5] : Array Value).setIfInBounds 5 (.slice a5 x.f5.length b5)).setIfInBounds 4 (.slice a4 x.f4.length b4)) = #[.int .i64 x.f0, .bool x.f1, .int .i64 x.f2, .string x.f3, .slice a4 x.f4.length b4, .slice a5 x.f5.length b5] := rfl
    rw [hX] at HX5
    clear hX
    have HR5' := Aside0.mk (show Kd.string.R 9 W5 w.heap.size (fun _ => True) (.slice a5 x.f5.length b5) x.f5 from ⟨fun _ _ => trivial, n5, qBm HS5.out (by omega), ⟨N5r.1, fun j p hp => N5r.2 j p hp⟩⟩)
    by_cases hn : x.f4.length = 0
    · have hx4 : x.f4 = [] := List.length_eq_zero_iff.1 hn
      go_loopw [16] (fun v16 wr => v16 = .int .i64 0 ∧ wr = W5) (fun _ _ => 0)
      case atStart => exact ⟨rfl, rfl⟩
      case round =>
        obtain ⟨rfl, rfl⟩ := hrel
        have hcond : ¬ ((0 : Int) < (x.f4.length : Int)) := by omega
        have q0 := qAb HX5.out 0
        have q1 := qAb HX5.out 1
        have q2 := qAb HX5.out 2
        have q3 := qAb HX5.out 3
        have q4 := qAb HX5.out 4
        have q5 := qAb HX5.out 5
        simp only [List.getElem?_toArray, List.getElem?_cons_zero, List.getElem?_cons_succ] at q0 q1 q2 q3 q4 q5
        have p0 := qAb HY5.out 0
        have p1 := qAb HY5.out 1
        have p2 := qAb HY5.out 2
        have p3 := qAb HY5.out 3
        have p4 := qAb HY5.out 4
        have p5 := qAb HY5.out 5
        simp only [List.getElem?_toArray, List.getElem?_cons_zero, List.getElem?_cons_succ] at p0 p1 p2 p3 p4 p5
        have pf := fun k => qAa HY5.out k
        go_wp2_with fail
        have HF := Aside0.mk (qB6 (.int .i64 x.f0) (.bool x.f1) (.int .i64 x.f2) (.string x.f3) (.slice a4 0 b4) (.slice a5 x.f5.length b5) HY5.out)
        have HFB := Aside0.mk (qBf (g := w.heap.size + 1) (.int .i64 x.f0) (.bool x.f1) (.int .i64 x.f2) (.string x.f3) (.slice a4 0 b4) (.slice a5 x.f5.length b5) HB5.out (by omega) 0)
        have HFO := Aside0.mk (fun k (h : k ≠ w.heap.size + 1) => qBx (w := wr) (g := w.heap.size + 1) (k := k) (.int .i64 x.f0) (.bool x.f1) (.int .i64 x.f2) (.string x.f3) (.slice a4 0 b4) (.slice a5 x.f5.length b5) 0 h)
        simp only [Nat.zero_add] at HFB HFO
        generalize (((((wr.setCell { block := w.heap.size + 1, off := 0 } (Value.int IntKind.i64 x.f0)).setCell { block := w.heap.size + 1, off := 1 } (Value.bool x.f1)).setCell { block := w.heap.size + 1, off := 2 } (Value.int IntKind.i64 x.f2)).setCell { block := w.heap.size + 1, off := 3 } (Value.string x.f3)).setCell { block := w.heap.size + 1, off := 4 } (Value.slice a4 0 b4)).setCell { block := w.heap.size + 1, off := 5 } (Value.slice a5 x.f5.length b5) = WF at *
        have r0 := qAb HF.out 0
        have r1 := qAb HF.out 1
        have r2 := qAb HF.out 2
        have r3 := qAb HF.out 3
        have r4 := qAb HF.out 4
        have r5 := qAb HF.out 5
        simp only [List.getElem?_toArray, List.getElem?_cons_zero, List.getElem?_cons_succ] at r0 r1 r2 r3 r4 r5
        refine bodyPost_ret (v := .agg #[.int .i64 x.f0, .bool x.f1, .int .i64 x.f2, .string x.f3, .slice a4 0 b4, .slice a5 x.f5.length b5]) (by simp [results, Tryd.results50, go_sem, r0, r1, r2, r3, r4, r5]) rfl ⟨_, _, rfl, ?_, ?_, HFB.out⟩
        · have hv : WF.ownsRow W3.heap.size 25 6 (.slice a4 x.f4.length b4) x.f4.length n4 := qBk HV5.out (fun k hk => HFO.out k (by have := qA1 HV5.out k hk; omega))
          have hn4 : n4 = [] := List.length_eq_zero_iff.1 (by omega)
          rw [hn4, hx4] at hv
          exact ⟨fun k hk (e : some k = (Value.slice a5 x.f5.length b5).ownBlock) => by have h1 := qA1 hv k hk; have h2 := K5a k e.symm; omega, [], qBm hv (by omega), Reps.none _ _⟩
        · exact ⟨fun _ _ => trivial, n5, qBm (qBk HS5.out (fun k hk => HFO.out k (by have := qA1 HS5.out k hk; omega))) (by omega), ⟨N5r.1, fun j p hp => N5r.2 j p hp⟩⟩
    · rcases HV5.out.2 with ⟨_, h0⟩ | ⟨g, cap, cur0, hsl, hgb, hg, hnc, hcm, hcs, htk⟩
      · exact absurd h0 hn
      injection hsl with ha4 _ hb4
      subst ha4 hb4
      have hgp : W3.heap.size ≤ g := hgb
      have HC0 := Aside0.mk (show ∃ cur : Array Value, W5.heap[g]? = some (.cells cur 25 (0, 0)) ∧ cur.size = b4 * 6 ∧ (∀ j, j < x.f4.length → 0 ≤ j → (cur.toList.drop (j * 6)).take 6 = (n4.drop (j * 6)).take 6) ∧ (∀ j (h : j < x.f4.length), j < 0 → k25.M W5 w.heap.size (fun k => k ≠ g ∧ w.heap.size + 1 < k ∧ some k ≠ (Value.slice a5 x.f5.length b5).ownBlock) x.f4[j] ((cur.toList.drop (j * 6)).take 6)) from ⟨cur0, hg, hcs, fun j hj _ => by rw [← htk, List.drop_take, List.take_take]; congr 1; omega, fun j h hj => absurd hj (by omega)⟩)
      have K5 : Aside0 (∀ k, (Value.slice a5 x.f5.length b5).ownBlock = some k → k < W3.heap.size) := ⟨K5a⟩
      clear hg htk HV5 HR5'
      go_loopw [16] (fun v16 wr => ∃ i : Nat, v16 = .int .i64 i ∧ i ≤ x.f4.length ∧ Aside0 (Below w.heap.size w wr) ∧ Aside0 (wr.heap[w.heap.size]? = some (.cells #[.int .i64 x.f0, .bool x.f1, .int .i64 x.f2, .string x.f3, .slice (some ⟨g, 0, none⟩) x.f4.length b4, .slice a5 x.f5.length b5] 25 (0, 0))) ∧ Aside0 (wr.heap[w.heap.size + 1]? = some (.cells #[.int .i64 0, .bool false, .int .i64 0, .string ⟨#[]⟩, .slice none 0 0, .slice none 0 0] 25 (0, 0))) ∧ Aside0 (wr.ownsRow W1.heap.size 9 1 (.slice a5 x.f5.length b5) x.f5.length n5) ∧ Aside0 (∃ cur : Array Value, wr.heap[g]? = some (.cells cur 25 (0, 0)) ∧ cur.size = b4 * 6 ∧ (∀ j, j < x.f4.length → i ≤ j → (cur.toList.drop (j * 6)).take 6 = (n4.drop (j * 6)).take 6) ∧ (∀ j (h : j < x.f4.length), j < i → k25.M wr w.heap.size (fun k => k ≠ g ∧ w.heap.size + 1 < k ∧ some k ≠ (Value.slice a5 x.f5.length b5).ownBlock) x.f4[j] ((cur.toList.drop (j * 6)).take 6)))) (fun v16 _ => x.f4.length - (intOf v16).toNat)
      case atStart => exact ⟨0, rfl, by omega, HB5, HX5, HY5, HS5, HC0⟩
      case round =>
        clear HB5 HX5 HY5 HS5 HC0
        obtain ⟨i, rfl, hi, HB, HX, HY, HS, HC⟩ := hrel
        by_cases hlt : i < x.f4.length
        · obtain ⟨cur, hgc, hcu, hca, hcb⟩ := HC.out
          obtain ⟨B4, e4, B5, e5, hcells, l4, g4, l5, g5⟩ := qFt (N4r.2 i _ (List.getElem?_eq_getElem hlt))
          have hci := hca i hlt (Nat.le_refl _)
          rw [hcells] at hci
          have hfit : i * 6 + 6 ≤ cur.size := by have := Nat.mul_le_mul_right 6 (show i + 1 ≤ b4 by omega); omega
          have hcel : ∀ q u, [Value.int .i64 x.f4[i].f0, .bool x.f4[i].f1, .int .i64 x.f4[i].f2, .string x.f4[i].f3, .slice B4 x.f4[i].f4.length e4, .slice B5 x.f4[i].f5.length e5][q]? = some u → wr.cell? ⟨g, i * 6 + q, none⟩ = some u := by
            intro q u hq
            rw [qAb hgc (i * 6 + q)]
            rw [← hci, List.getElem?_take, List.getElem?_drop] at hq
            split at hq
            · simpa using hq
            · cases hq
          have y0 := hcel 0 _ rfl
          have y1 := hcel 1 _ rfl
          have y2 := hcel 2 _ rfl
          have y3 := hcel 3 _ rfl
          have y4 := hcel 4 _ rfl
          have y5 := hcel 5 _ rfl
          rw [Nat.add_zero] at y0
          have z4 := qAb HX.out 4
          simp only [List.getElem?_toArray, List.getElem?_cons_zero, List.getElem?_cons_succ] at z4
          have HYm := Aside0.mk (List.getElem_mem hlt)
          have HYe : Aside0 (x.f4[i]? = some x.f4[i]) := ⟨List.getElem?_eq_getElem hlt⟩
          generalize x.f4[i] = y at *
          clear hcel hci
          go_wp2_with fail
          have HSY := Aside0.mk (HSE.out y HYm.out)
          have G4 := Aside0.mk g4
          have G5 := Aside0.mk g5
          have HBa := Aside0.mk (qAd HB.out (.cells #[.int .i64 y.f0, .bool y.f1, .int .i64 y.f2, .string y.f3, .slice B4 y.f4.length e4, .slice B5 y.f5.length e5] 25))
          have HBr := Aside0.mk (qAd (Below.refl wr.heap.size wr) (.cells #[.int .i64 y.f0, .bool y.f1, .int .i64 y.f2, .string y.f3, .slice B4 y.f4.length e4, .slice B5 y.f5.length e5] 25))
          have HXa := Aside0.mk (qAm HX.out HBr.out)
          have HYa := Aside0.mk (qAm HY.out HBr.out)
          have HGa := Aside0.mk (qAm hgc HBr.out)
          have HBX := Aside0.mk (qA9 wr (.cells #[.int .i64 y.f0, .bool y.f1, .int .i64 y.f2, .string y.f3, .slice B4 y.f4.length e4, .slice B5 y.f5.length e5] 25))
          have HSa := Aside0.mk (qA2 HS.out HBr.out)
          have HCB := Aside0.mk hcb
          have HCA := Aside0.mk hca
          have hwr := blk_lt hgc
          clear g4 g5 y0 y1 y2 y3 y4 y5 z4 hcb hca hgc HX HY HB HC HS hcells
          have hszr : (wr.alloc (.cells #[.int .i64 y.f0, .bool y.f1, .int .i64 y.f2, .string y.f3, .slice B4 y.f4.length e4, .slice B5 y.f5.length e5] 25)).heap.size = wr.heap.size + 1 := by simp [World.alloc, -World.alloc_eq]
          generalize wr.alloc (.cells #[.int .i64 y.f0, .bool y.f1, .int .i64 y.f2, .string y.f3, .slice B4 y.f4.length e4, .slice B5 y.f5.length e5] 25) = Wa at *
          have z4 := qAb HXa.out 4
          have x0 := qAb HBX.out 0
          have x1 := qAb HBX.out 1
          have x2 := qAb HBX.out 2
          have x3 := qAb HBX.out 3
          have x4 := qAb HBX.out 4
          have x5 := qAb HBX.out 5
          simp only [List.getElem?_toArray, List.getElem?_cons_zero, List.getElem?_cons_succ] at z4 x0 x1 x2 x3 x4 x5
          have hcap : i < b4 := by omega
          go_region_with (go_at_call 50; refine (ih y B4 e4 B5 e5 _ HSY.out ?s1 l4 ?s2 l5).mono ?_; (case s1 => exact Kd.C_below G4.out (by repeat (first | exact HBa.out | apply qAe | apply qAc))); (case s2 => exact Kd.C_below G5.out (by repeat (first | exact HBa.out | apply qAe | apply qAc))); rintro e w6 ⟨v4, v5, rfl, hv4, hv5, hb6⟩; obtain ⟨p4, q4, rfl⟩ := Kd.R_slice hv4; obtain ⟨p5, q5, rfl⟩ := Kd.R_slice hv5; have H6 := Aside0.mk (show Below Wa.heap.size Wa w6 from qAj (by repeat (first | exact Below.refl _ _ | apply qAe | apply qAc)) hb6); have HV4 := Aside0.mk (Kd.R_lower (base' := Wa.heap.size) hv4 (by first | exact Nat.le_refl _ | simp)); have HV5 := Aside0.mk (Kd.R_lower (base' := Wa.heap.size) hv5 (by first | exact Nat.le_refl _ | simp)); clear hv4 hv5 hb6; have z4 : w6.cell? ⟨w.heap.size, 4, none⟩ = some (.slice (some ⟨g, 0, none⟩) x.f4.length b4) := (qAb (qAm HXa.out H6.out) 4).trans rfl; have HG6 := Aside0.mk (qAm HGa.out H6.out); have hgf := fun k => qAa HG6.out k; have hgs := fun k (hk : k < b4 * 6) => qG9 HG6.out (show k < cur.size by omega); have t0 := hgs (i * 6) (by omega); have t1 := hgs (i * 6 + 1) (by omega); have t2 := hgs (i * 6 + 2) (by omega); have t3 := hgs (i * 6 + 3) (by omega); have t4 := hgs (i * 6 + 4) (by omega); have t5 := hgs (i * 6 + 5) (by omega); obtain ⟨t0v, t0⟩ := t0; obtain ⟨t1v, t1⟩ := t1; obtain ⟨t2v, t2⟩ := t2; obtain ⟨t3v, t3⟩ := t3; obtain ⟨t4v, t4⟩ := t4; obtain ⟨t5v, t5⟩ := t5)
          all_goals
            have HF := Aside0.mk (qHr (o := i * 6) (.int .i64 y.f0) (.bool y.f1) (.int .i64 y.f2) (.string y.f3) (.slice p4 y.f4.length q4) (.slice p5 y.f5.length q5) HG6.out)
            have HFB := Aside0.mk (qBf (g := g) (.int .i64 y.f0) (.bool y.f1) (.int .i64 y.f2) (.string y.f3) (.slice p4 y.f4.length q4) (.slice p5 y.f5.length q5) (qAj HBa.out H6.out) (by omega) (i * 6))
            have HFO := Aside0.mk (fun k (h : k ≠ g) => qBx (w := w6) (g := g) (k := k) (.int .i64 y.f0) (.bool y.f1) (.int .i64 y.f2) (.string y.f3) (.slice p4 y.f4.length q4) (.slice p5 y.f5.length q5) (i * 6) h)
            clear t0 t1 t2 t3 t4 t5 hgf hgs z4 x0 x1 x2 x3 x4 x5
            generalize (((((w6.setCell { block := g, off := i * 6 } (Value.int IntKind.i64 y.f0)).setCell { block := g, off := i * 6 + 1 } (Value.bool y.f1)).setCell { block := g, off := i * 6 + 2 } (Value.int IntKind.i64 y.f2)).setCell { block := g, off := i * 6 + 3 } (Value.string y.f3)).setCell { block := g, off := i * 6 + 4 } (Value.slice p4 y.f4.length q4)).setCell { block := g, off := i * 6 + 5 } (Value.slice p5 y.f5.length q5) = W7 at *
            have hga : g < Wa.heap.size := by omega
            have HXf := Aside0.mk ((HFO.out w.heap.size (by omega)).trans (qAm HXa.out H6.out))
            have HYf := Aside0.mk ((HFO.out (w.heap.size + 1) (by omega)).trans (qAm HYa.out H6.out))
            have HSf := Aside0.mk (qBk (qA2 HSa.out H6.out) (fun k hk => HFO.out k (by have := K5.out k hk; omega)))
            have HMi := Aside0.mk (qE4 W7 w.heap.size (fun k => k ≠ g ∧ w.heap.size + 1 < k ∧ some k ≠ (Value.slice a5 x.f5.length b5).ownBlock) y
              (Kd.R_move (Kd.R_lower (base' := w.heap.size) (Kd.R_mono (ok' := fun k => k ≠ g ∧ w.heap.size + 1 < k ∧ some k ≠ (Value.slice a5 x.f5.length b5).ownBlock) (Kd.R_bound HV4.out) (fun k hk => ⟨by have := hk.2.1; omega, by have := hk.2.1; omega, fun e => by have := K5.out k e.symm; have := hk.2.1; omega⟩)) (by omega)) (fun k hk => HFO.out k hk.1))
              (Kd.R_move (Kd.R_lower (base' := w.heap.size) (Kd.R_mono (ok' := fun k => k ≠ g ∧ w.heap.size + 1 < k ∧ some k ≠ (Value.slice a5 x.f5.length b5).ownBlock) (Kd.R_bound HV5.out) (fun k hk => ⟨by have := hk.2.1; omega, by have := hk.2.1; omega, fun e => by have := K5.out k e.symm; have := hk.2.1; omega⟩)) (by omega)) (fun k hk => HFO.out k hk.1)))
            have HCf := Aside0.mk (show ∃ cur : Array Value, W7.heap[g]? = some (.cells cur 25 (0, 0)) ∧ cur.size = b4 * 6 ∧ (∀ j, j < x.f4.length → i + 1 ≤ j → (cur.toList.drop (j * 6)).take 6 = (n4.drop (j * 6)).take 6) ∧ (∀ j (h : j < x.f4.length), j < i + 1 → k25.M W7 w.heap.size (fun k => k ≠ g ∧ w.heap.size + 1 < k ∧ some k ≠ (Value.slice a5 x.f5.length b5).ownBlock) x.f4[j] ((cur.toList.drop (j * 6)).take 6)) from
              ⟨_, HF.out, by rw [qG6]; exact hcu, fun j hj hij => by rw [qEd _ _ _ _ _ _ _ _ _ hfit (by omega)]; exact HCA.out j hj (by omega), fun j hj hij => by
                by_cases e : j = i
                · subst e
                  rw [qG7 _ _ _ _ _ _ _ _ hfit]
                  have ey : x.f4[j] = y := Option.some.inj ((List.getElem?_eq_getElem hj).symm.trans HYe.out)
                  rw [ey]
                  exact HMi.out
                · rw [qEd _ _ _ _ _ _ _ _ _ hfit e]
                  exact Kd.M_step (HCB.out j hj (by omega)) (fun k hk hlt => ((HFO.out k hk.1).trans (H6.out.block k (by omega))).trans (HBr.out.block k hlt))⟩)
            go_wp2
            go_roundw
            case rel => exact ⟨i + 1, by go_num, by omega, HFB, HXf, HYf, HSf, HCf⟩
            case measure => simp [intOf]; omega
        · obtain ⟨cur, hgc, hcu, hca, hcb⟩ := HC.out
          have hin : i = x.f4.length := by omega
          subst hin
          have HGC := Aside0.mk hgc
          have HCB := Aside0.mk hcb
          clear hgc hcb hca HC
          have q0 := qAb HX.out 0
          have q1 := qAb HX.out 1
          have q2 := qAb HX.out 2
          have q3 := qAb HX.out 3
          have q4 := qAb HX.out 4
          have q5 := qAb HX.out 5
          simp only [List.getElem?_toArray, List.getElem?_cons_zero, List.getElem?_cons_succ] at q0 q1 q2 q3 q4 q5
          have p0 := qAb HY.out 0
          have p1 := qAb HY.out 1
          have p2 := qAb HY.out 2
          have p3 := qAb HY.out 3
          have p4 := qAb HY.out 4
          have p5 := qAb HY.out 5
          simp only [List.getElem?_toArray, List.getElem?_cons_zero, List.getElem?_cons_succ] at p0 p1 p2 p3 p4 p5
          have pf := fun k => qAa HY.out k
          go_wp2_with fail
          have HF := Aside0.mk (qB6 (.int .i64 x.f0) (.bool x.f1) (.int .i64 x.f2) (.string x.f3) (.slice (some ⟨g, 0, none⟩) x.f4.length b4) (.slice a5 x.f5.length b5) HY.out)
          have HFB := Aside0.mk (qBf (g := w.heap.size + 1) (.int .i64 x.f0) (.bool x.f1) (.int .i64 x.f2) (.string x.f3) (.slice (some ⟨g, 0, none⟩) x.f4.length b4) (.slice a5 x.f5.length b5) HB.out (by omega) 0)
          have HFO := Aside0.mk (fun k (h : k ≠ w.heap.size + 1) => qBx (w := wr) (g := w.heap.size + 1) (k := k) (.int .i64 x.f0) (.bool x.f1) (.int .i64 x.f2) (.string x.f3) (.slice (some ⟨g, 0, none⟩) x.f4.length b4) (.slice a5 x.f5.length b5) 0 h)
          simp only [Nat.zero_add] at HFB HFO
          clear q0 q1 q2 q3 q4 q5 p0 p1 p2 p3 p4 p5 pf
          generalize (((((wr.setCell { block := w.heap.size + 1, off := 0 } (Value.int IntKind.i64 x.f0)).setCell { block := w.heap.size + 1, off := 1 } (Value.bool x.f1)).setCell { block := w.heap.size + 1, off := 2 } (Value.int IntKind.i64 x.f2)).setCell { block := w.heap.size + 1, off := 3 } (Value.string x.f3)).setCell { block := w.heap.size + 1, off := 4 } (Value.slice (some ⟨g, 0, none⟩) x.f4.length b4)).setCell { block := w.heap.size + 1, off := 5 } (Value.slice a5 x.f5.length b5) = WF at *
          have r0 := qAb HF.out 0
          have r1 := qAb HF.out 1
          have r2 := qAb HF.out 2
          have r3 := qAb HF.out 3
          have r4 := qAb HF.out 4
          have r5 := qAb HF.out 5
          simp only [List.getElem?_toArray, List.getElem?_cons_zero, List.getElem?_cons_succ] at r0 r1 r2 r3 r4 r5
          refine bodyPost_ret (v := .agg #[.int .i64 x.f0, .bool x.f1, .int .i64 x.f2, .string x.f3, .slice (some ⟨g, 0, none⟩) x.f4.length b4, .slice a5 x.f5.length b5]) (by simp [results, Tryd.results50, go_sem, r0, r1, r2, r3, r4, r5]) rfl ⟨_, _, rfl, ?_, ?_, HFB.out⟩
          · have hlen : (cur.toList.take (x.f4.length * 6)).length = x.f4.length * 6 := by
              have := Nat.mul_le_mul_right 6 hnc
              rw [List.length_take, Array.length_toList, hcu]; omega
            refine ⟨fun k hk (e : some k = (Value.slice a5 x.f5.length b5).ownBlock) => by have h1 := K5.out k e.symm; have h2 : g = k := (by simpa [Value.ownBlock] using hk); omega, cur.toList.take (x.f4.length * 6), ⟨hlen, .inr ⟨g, b4, cur, rfl, by omega, (HFO.out g (by omega)).trans HGC.out, hnc, hcm, hcu, rfl⟩⟩, hlen, fun j p hp => ?_⟩
            have hj : j < x.f4.length := (List.getElem?_eq_some_iff.1 hp).1
            have ep : x.f4[j] = p := (List.getElem?_eq_some_iff.1 hp).2
            have es : ((cur.toList.take (x.f4.length * 6)).drop (j * 6)).take 6 = (cur.toList.drop (j * 6)).take 6 := by
              rw [List.drop_take, List.take_take]; congr 1; omega
            have hM := HCB.out j hj hj
            rw [← es, ep] at hM
            exact k25.M_mono (fun k hk => ⟨hk.2.2, fun e => hk.1 (Option.some.inj e)⟩) (k25.M_move (fun k hk => HFO.out k (by have := hk.2.1; omega)) hM)
          · exact ⟨fun _ _ => trivial, n5, qBm (qBk HS.out (fun k hk => HFO.out k (by have := qA1 HS.out k hk; omega))) (by omega), ⟨N5r.1, fun j p hp => N5r.2 j p hp⟩⟩
end Go.Proofs.YtbnoihpooeombaaDoor.X

namespace Go.Proofs.YtbnoihpooeombaaDoor.P
open Go.Proofs.YtbnoihpooeombaaDoor.X
open Go.RowKit Go.Proofs.YtbnoihpooeombaaDoorW.PrintWords Go.Proofs.YtbnoihpooeombaaDoorW.PrintLast Go.Proofs.YtbnoihpooeombaaDoorW.PrintMore
attribute [local go_sem] qAr qAx
set_option linter.unusedVariables false
set_option linter.unusedSimpArgs false
def slices_Equal_string_string.l0 : Nat → List ByteArray → List ByteArray → Int → Int → Option (Bool)
 | 0, _, _, _, _ => none
 | k + 1, x0, x1, x12, x13 => if x13 < x12 then (if 0 ≤ x13 then (if x13 < (x0.length : Int) then (if x13 < (x1.length : Int) then (if (rdOf ByteArray.empty x0 x13).toList = (rdOf ByteArray.empty x1 x13).toList then (slices_Equal_string_string.l0 k x0 x1 x12 (wrap64 (x13 + 1))) else (some false)) else (none)) else (none)) else (none)) else (some true)
def slices_Equal_string_string.f (k : Nat) (l0 : List ByteArray) (l1 : List ByteArray) : Option (Bool) := if (l0.length : Int) = (l1.length : Int) then (slices_Equal_string_string.l0 k l0 l1 (l0.length : Int) 0) else (some false)
set_option maxHeartbeats 8000000 in
set_option maxRecDepth 100000 in
theorem slices_Equal_string_string.calls (k : Nat) (A0 : Option Addr) (c0 : Nat) (l0 : List ByteArray) (A1 : Option Addr) (c1 : Nat) (l1 : List ByteArray) (r : Bool) (w : World) (hr0 : Kd.C Kd.string w A0 l0.length l0) (hc0 : l0.length ≤ c0) (hr1 : Kd.C Kd.string w A1 l1.length l1) (hc1 : l1.length ≤ c1) (h : slices_Equal_string_string.f k l0 l1 = some r) :
  Calls Tryd.prog 76 #[.slice A0 l0.length c0, .slice A1 l1.length c1] w fun e w' => e = .returned (.bool r) ∧ Drawn0 w w' := by
 have HR0 := Aside0.mk hr0
 have HC0 := Aside0.mk hc0
 clear hr0 hc0
 have HR1 := Aside0.mk hr1
 have HC1 := Aside0.mk hc1
 clear hr1 hc1
 have H : (if (l0.length : Int) = (l1.length : Int) then (slices_Equal_string_string.l0 k l0 l1 (l0.length : Int) 0) else (some false)) = some r := h
 clear h
 by_cases c3 : (l0.length : Int) = (l1.length : Int)
 ·rw [if_pos c3] at H
  have c3b0 : ((l0.length : Int) == (l1.length : Int)) = true := beq_iff_eq.mpr c3
  have c3b1 : ((l0.length : Int) != (l1.length : Int)) = false := bne_eq_false_iff_eq.mpr c3
  have c3b2 : (l0.length == l1.length) = true := by first | simpa using c3 | (simp at c3 ⊢; omega)
  clear c3
  have H' := Aside0.mk H
  clear H
  go_enter Tryd.func76, Tryd.ntmps76
  go_wp2
  repeat (go_quiet (fail); try go_wp2)
  go_loopg [13] k (fun kq v13 w' => ∃ (x13_1 : Int), v13 = .int .i64 x13_1 ∧ Aside0 (slices_Equal_string_string.l0 kq l0 l1 (l0.length : Int) x13_1 = some r) ∧ Aside0 (kq ≤ k) ∧ Drawn0 w w')
  case atStart => exact ⟨(0), (by first | rfl | (simp; done) | (simp [*]; done) | exact congrArg Value.bool (nil_ne _) | exact congrArg Value.bool (nil_eq _) | exact congrArg Value.bool (nil_ne' _)), H', ⟨Nat.le_refl _⟩, by repeat (first | exact Drawn0.refl _ | apply Drawn0.step)⟩
  case round =>
   clear H'
   try clear c1
   try clear p2
   try clear c3
   try clear c3b0
   try clear c3b1
   try clear c3b2
   obtain ⟨x13_1, rfl, HA, HK1, ⟨m1, rfl⟩⟩ := hrel
   cases gk with
   | zero => exact absurd HA.out (by simp [slices_Equal_string_string.l0])
   | succ k1 =>
    have H := HA.out
    clear HA
    simp only [slices_Equal_string_string.l0] at H
    by_cases c4 : x13_1 < (l0.length : Int)
    ·rw [if_pos c4] at H
     have c4b0 : decide (x13_1 < (l0.length : Int)) = true := decide_eq_true c4
     clear c4
     by_cases c5 : 0 ≤ x13_1
     ·rw [if_pos c5] at H
      have c5b0 : decide (0 ≤ x13_1) = true := decide_eq_true c5
      clear c5
      by_cases c6 : x13_1 < (l0.length : Int)
      ·rw [if_pos c6] at H
       have c6b0 : decide (x13_1 < (l0.length : Int)) = true := decide_eq_true c6
       clear c6
       by_cases c7 : x13_1 < (l1.length : Int)
       ·rw [if_pos c7] at H
        have c7b0 : decide (x13_1 < (l1.length : Int)) = true := decide_eq_true c7
        clear c7
        by_cases c8 : (rdOf ByteArray.empty l0 x13_1).toList = (rdOf ByteArray.empty l1 x13_1).toList
        ·rw [if_pos c8] at H
         have c8b0 : ((rdOf ByteArray.empty l0 x13_1).toList == (rdOf ByteArray.empty l1 x13_1).toList) = true := beq_iff_eq.mpr c8
         have c8b1 : ((rdOf ByteArray.empty l0 x13_1).toList != (rdOf ByteArray.empty l1 x13_1).toList) = false := bne_eq_false_iff_eq.mpr c8
         clear c8
         have H' := Aside0.mk H
         clear H
         have p552 : 0 ≤ (x13_1 : Int) := of_decide_eq_true (by first | (with_reducible assumption) | assumption)
         have q552 : x13_1 < (l0.length : Int) := of_decide_eq_true (by first | (with_reducible assumption) | assumption)
         obtain ⟨ad552, e552, hx552_0⟩ := Kd.at_string HR0.out x13_1 p552 q552
         cases e552
         replace p552 := eq_true p552
         replace q552 := eq_true q552
         have p553 : 0 ≤ (x13_1 : Int) := of_decide_eq_true (by first | (with_reducible assumption) | assumption)
         have q553 : x13_1 < (l1.length : Int) := of_decide_eq_true (by first | (with_reducible assumption) | assumption)
         obtain ⟨ad553, e553, hx553_0⟩ := Kd.at_string HR1.out x13_1 p553 q553
         cases e553
         replace p553 := eq_true p553
         replace q553 := eq_true q553
         go_wp2
         repeat (go_quiet (fail); try go_wp2)
         go_roundg k1
         case measure => have := HK1.out; omega
         case rel => exact ⟨(wrap64 (x13_1 + 1)), (by first | rfl | (simp; done) | (simp [*]; done) | exact congrArg Value.bool (nil_ne _) | exact congrArg Value.bool (nil_eq _) | exact congrArg Value.bool (nil_ne' _)), H', ⟨by have := HK1.out; omega⟩, by repeat (first | exact Drawn0.refl _ | apply Drawn0.step)⟩
        ·rw [if_neg c8] at H
         have c8b0 : ((rdOf ByteArray.empty l0 x13_1).toList == (rdOf ByteArray.empty l1 x13_1).toList) = false := beq_eq_false_iff_ne.mpr c8
         have c8b1 : ((rdOf ByteArray.empty l0 x13_1).toList != (rdOf ByteArray.empty l1 x13_1).toList) = true := bne_iff_ne.mpr c8
         obtain rfl := Option.some.inj H
         have p552 : 0 ≤ (x13_1 : Int) := of_decide_eq_true (by first | (with_reducible assumption) | assumption)
         have q552 : x13_1 < (l0.length : Int) := of_decide_eq_true (by first | (with_reducible assumption) | assumption)
         obtain ⟨ad552, e552, hx552_0⟩ := Kd.at_string HR0.out x13_1 p552 q552
         cases e552
         replace p552 := eq_true p552
         replace q552 := eq_true q552
         have p553 : 0 ≤ (x13_1 : Int) := of_decide_eq_true (by first | (with_reducible assumption) | assumption)
         have q553 : x13_1 < (l1.length : Int) := of_decide_eq_true (by first | (with_reducible assumption) | assumption)
         obtain ⟨ad553, e553, hx553_0⟩ := Kd.at_string HR1.out x13_1 p553 q553
         cases e553
         replace p553 := eq_true p553
         replace q553 := eq_true q553
         go_wp2
         repeat (go_quiet (fail); try go_wp2)
         go_ret
         exact ⟨by first | rfl | (simp; done) | (simp [*]; done), by repeat (first | exact Drawn0.refl _ | apply Drawn0.step)⟩
       ·rw [if_neg c7] at H
        exact absurd H (by simp)
      ·rw [if_neg c6] at H
       exact absurd H (by simp)
     ·rw [if_neg c5] at H
      exact absurd H (by simp)
    ·rw [if_neg c4] at H
     have c4b0 : decide (x13_1 < (l0.length : Int)) = false := decide_eq_false c4
     clear c4
     obtain rfl := Option.some.inj H
     go_wp2
     repeat (go_quiet (fail); try go_wp2)
     go_ret
     exact ⟨by first | rfl | (simp; done) | (simp [*]; done), by repeat (first | exact Drawn0.refl _ | apply Drawn0.step)⟩
 ·rw [if_neg c3] at H
  have c3b0 : ((l0.length : Int) == (l1.length : Int)) = false := beq_eq_false_iff_ne.mpr c3
  have c3b1 : ((l0.length : Int) != (l1.length : Int)) = true := bne_iff_ne.mpr c3
  have c3b2 : (l0.length == l1.length) = false := by first | simpa using c3 | (simp at c3 ⊢; omega)
  obtain rfl := Option.some.inj H
  go_enter Tryd.func76, Tryd.ntmps76
  go_wp2
  repeat (go_quiet (fail); try go_wp2)
  go_ret
  exact ⟨by first | rfl | (simp; done) | (simp [*]; done), by repeat (first | exact Drawn0.refl _ | apply Drawn0.step)⟩
end Go.Proofs.YtbnoihpooeombaaDoor.P

namespace Go.Proofs.YtbnoihpooeombaaDoor.X
open Go.RowKit Go.Proofs.YtbnoihpooeombaaDoorW.PrintWords Go.Proofs.YtbnoihpooeombaaDoorW.PrintLast Go.Proofs.YtbnoihpooeombaaDoorW.PrintMore Go.Proofs.YtbnoihpooeombaaDoor.P
set_option linter.unusedVariables false
set_option linter.unusedSimpArgs false
def allEq (f : S25 → S25 → Bool) : List S25 → List S25 → Bool
  | [], [] => true
  | x :: l, y :: m => f x y && allEq f l m
  | _, _ => false
def sameV : Nat → S25 → S25 → Bool
  | 0, _, _ => false
  | d + 1, a, b => a.f0 == b.f0 && (a.f1 == b.f1 && (a.f2 == b.f2 && (a.f3.toList == b.f3.toList && (decide (a.f5 = b.f5) && allEq (sameV d) a.f4 b.f4))))
theorem qDl (f : S25 → S25 → Bool) : ∀ l m, l.length ≠ m.length → allEq f l m = false
  | [], [], h => absurd rfl h
  | [], _ :: _, _ => rfl
  | _ :: _, [], _ => rfl
  | x :: l, y :: m, h => by
    rw [allEq, qDl f l m (fun e => h (by simp [e])), Bool.and_false]
theorem qBl (a b : ByteArray) : a.toList = b.toList ↔ a = b := by
  rw [ByteArray.toList_eq, ByteArray.toList_eq]
  exact ⟨fun h => ByteArray.ext (Array.ext' h), fun h => by rw [h]⟩
theorem eqS_l0 (a b : List ByteArray) (h : a.length = b.length) (hn : a.length ≤ 9223372036854775807) : ∀ (d i : Nat), a.length - i = d → i ≤ a.length → Ev (fun k => slices_Equal_string_string.l0 k a b (a.length : Int) (i : Int)) (decide (a.drop i = b.drop i)) := by
  intro d
  induction d with
  | zero =>
    intro i hd hi
    refine ⟨1, fun k hk => ?_⟩
    obtain ⟨k, rfl⟩ : ∃ m, k = m + 1 := ⟨k - 1, by omega⟩
    simp only [slices_Equal_string_string.l0]
    rw [if_neg (by omega), List.drop_eq_nil_of_le (by omega), List.drop_eq_nil_of_le (by omega)]
    rfl
  | succ d ih =>
    intro i hd hi
    have hlt : i < a.length := by omega
    have hlt2 : i < b.length := by omega
    obtain ⟨K, hK⟩ := ih (i + 1) (by omega) (by omega)
    refine ⟨K + 1, fun k hk => ?_⟩
    obtain ⟨k, rfl⟩ : ∃ m, k = m + 1 := ⟨k - 1, by omega⟩
    have hK := hK k (by omega)
    simp only at hK
    simp only [slices_Equal_string_string.l0]
    rw [if_pos (by omega), if_pos (by omega), if_pos (by omega), if_pos (by omega), qAz a i hlt, qAz b i hlt2, List.drop_eq_getElem_cons hlt, List.drop_eq_getElem_cons hlt2]
    by_cases e : a[i] = b[i]
    · rw [if_pos (by rw [e]), wrap_i i a.length hlt hn, hK, e]
      congr 1
      rw [decide_eq_decide, List.cons.injEq]
      simp only [true_and]
    · rw [if_neg (fun x => e ((qBl _ _).1 x))]
      congr 1
      symm
      rw [decide_eq_false_iff_not, List.cons.injEq]
      exact fun x => e x.1
theorem eqS_eq (a b : List ByteArray) (hn : a.length ≤ 9223372036854775807) : Ev (fun k => slices_Equal_string_string.f k a b) (decide (a = b)) := by
  by_cases h : a.length = b.length
  · obtain ⟨K, hK⟩ := eqS_l0 a b h hn a.length 0 (by omega) (by omega)
    refine ⟨K, fun k hk => ?_⟩
    have := hK k hk
    show slices_Equal_string_string.f k a b = _
    unfold slices_Equal_string_string.f
    rw [if_pos (by omega)]
    exact this
  · refine ⟨0, fun k hk => ?_⟩
    show slices_Equal_string_string.f k a b = _
    unfold slices_Equal_string_string.f
    rw [if_neg (by omega), decide_eq_false (fun e => h (by rw [e]))]
set_option maxHeartbeats 4000000 in
set_option maxRecDepth 100000 in
theorem qDk (d : Nat) (ih : ∀ (x y : S25) (A4 : Option Addr) (c4 : Nat) (A5 : Option Addr) (c5 : Nat) (B4 : Option Addr) (e4 : Nat) (B5 : Option Addr) (e5 : Nat) (w : World), smallV d x → k25.C w A4 x.f4.length x.f4 → x.f4.length ≤ c4 → Kd.string.C w A5 x.f5.length x.f5 → x.f5.length ≤ c5 → k25.C w B4 y.f4.length y.f4 → y.f4.length ≤ e4 → Kd.string.C w B5 y.f5.length y.f5 → y.f5.length ≤ e5 →
      Calls Tryd.prog 54 #[.agg #[.int .i64 x.f0, .bool x.f1, .int .i64 x.f2, .string x.f3, .slice A4 x.f4.length c4, .slice A5 x.f5.length c5], .agg #[.int .i64 y.f0, .bool y.f1, .int .i64 y.f2, .string y.f3, .slice B4 y.f4.length e4, .slice B5 y.f5.length e5]] w fun e w' => e = .returned (.bool (sameV d x y)) ∧ Below w.heap.size w w')
    (l m : List S25) (A : Option Addr) (c : Nat) (B : Option Addr) (e : Nat) (w : World) (hs : ∀ y ∈ l, smallV d y) (hl : k25.C w A l.length l) (hc : l.length ≤ c) (hm : k25.C w B m.length m) (he : m.length ≤ e) :
    Calls Tryd.prog 77 #[.slice A l.length c, .slice B m.length e, .func (.func 54) #[] #[]] w fun e w' => e = .returned (.bool (allEq (sameV d) l m)) ∧ Below w.heap.size w w' := by
  have HL := Aside0.mk hl
  have HM := Aside0.mk hm
  have HS := Aside0.mk hs
  have HI := Aside0.mk ih
  have hlm : l.length ≤ 9223372036854775807 := hl.2.1
  clear hl hm hs ih
  by_cases hlen : l.length = m.length
  · have hne : ((l.length : Int) != (m.length : Int)) = false := by rw [hlen]; simp
    have HN := Aside0.mk hlen
    clear hlen
    go_enter Tryd.func77, Tryd.ntmps77
    go_wp2
    go_loopw [17] (fun v17 wr => ∃ i : Nat, v17 = .int .i64 i ∧ i ≤ l.length ∧ Aside0 (Below w.heap.size w wr) ∧ Aside0 (allEq (sameV d) l m = allEq (sameV d) (l.drop i) (m.drop i))) (fun v17 _ => l.length - (intOf v17).toNat)
    case atStart => exact ⟨0, rfl, by omega, ⟨Below.refl _ _⟩, ⟨by rw [List.drop_zero, List.drop_zero]⟩⟩
    case round =>
      obtain ⟨i, rfl, hi, HB, HE⟩ := hrel
      by_cases hlt : i < l.length
      · have hlt2 : i < m.length := by have := HN.out; omega
        obtain ⟨ad, A4, a4, A5, a5, rfl, z0, z1, z2, z3, z4, z5, l4, g4, l5, g5⟩ := at_T25 (Kd.C_below HL.out HB.out) (i : Int) (by omega) (by omega)
        obtain ⟨bd, B4, b4, B5, b5, rfl, y0, y1, y2, y3, y4, y5, m4, h4, m5, h5⟩ := at_T25 (Kd.C_below HM.out HB.out) (i : Int) (by omega) (by omega)
        simp only [Int.toNat_natCast] at z0 z1 z2 z3 z4 z5 y0 y1 y2 y3 y4 y5
        have G4 := Aside0.mk g4
        have G5 := Aside0.mk g5
        have H4 := Aside0.mk h4
        have H5 := Aside0.mk h5
        clear g4 g5 h4 h5
        have HX := Aside0.mk (show rd_T25 l (i : Int) = l[i] from by simp [rd_T25, List.getD_eq_getElem?_getD, hlt])
        have HY := Aside0.mk (show rd_T25 m (i : Int) = m[i] from by simp [rd_T25, List.getD_eq_getElem?_getD, hlt2])
        have HSx := Aside0.mk (HS.out _ (List.getElem_mem hlt))
        rw [← HX.out] at HSx
        generalize rd_T25 l (i : Int) = x at *
        generalize rd_T25 m (i : Int) = y at *
        have hib : (i : Int) < (m.length : Int) := by omega
        have HBb := Aside0.mk (qAd (Below.refl wr.heap.size wr) (.cells #[.int .i64 x.f0, .bool x.f1, .int .i64 x.f2, .string x.f3, .slice A4 x.f4.length a4, .slice A5 x.f5.length a5] 25))
        have w0 := qAh HBb.out y0
        have w1 := qAh HBb.out y1
        have w2 := qAh HBb.out y2
        have w3 := qAh HBb.out y3
        have w4 := qAh HBb.out y4
        have w5 := qAh HBb.out y5
        clear y0 y1 y2 y3 y4 y5
        go_wp2_with fail
        refine (HI.out x y A4 a4 A5 a5 B4 b4 B5 b5 _ HSx.out (Kd.C_alloc (Kd.C_alloc G4.out _) _) l4 (Kd.C_alloc (Kd.C_alloc G5.out _) _) l5 (Kd.C_alloc (Kd.C_alloc H4.out _) _) m4 (Kd.C_alloc (Kd.C_alloc H5.out _) _) m5).mono ?_
        rintro e w9 ⟨rfl, hb9⟩
        have HB9 := Aside0.mk (qAj (qAd (qAd HB.out _) _) hb9)
        have HD := Aside0.mk (show allEq (sameV d) (l.drop i) (m.drop i) = (sameV d x y && allEq (sameV d) (l.drop (i + 1)) (m.drop (i + 1))) from by
          rw [HX.out, HY.out, List.drop_eq_getElem_cons hlt, List.drop_eq_getElem_cons hlt2]; rfl)
        clear hb9
        generalize sameV d x y = sb at *
        cases sb with
        | false =>
          go_wp2
          go_ret
          exact ⟨by rw [HE.out, HD.out]; rfl, HB9.out⟩
        | true =>
          go_wp2
          go_roundw
          case rel => exact ⟨i + 1, by go_num, by omega, HB9, ⟨by rw [HE.out, HD.out]; rfl⟩⟩
          case measure => simp [intOf]; omega
      · have hin : i = l.length := by omega
        subst hin
        go_wp2
        go_ret
        refine ⟨?_, HB.out⟩
        rw [HE.out, List.drop_length, List.drop_eq_nil_of_le (by have := HN.out; omega)]; rfl
  · have hne : ((l.length : Int) != (m.length : Int)) = true := by simp; omega
    have HE := Aside0.mk (qDl (sameV d) l m hlen)
    clear hlen
    go_enter Tryd.func77, Tryd.ntmps77
    go_wp2
    go_ret
    exact ⟨by rw [HE.out]; rfl, Below.refl _ _⟩
set_option maxHeartbeats 6400000 in
set_option maxRecDepth 100000 in
theorem qFy (d : Nat) : ∀ (x y : S25) (A4 : Option Addr) (c4 : Nat) (A5 : Option Addr) (c5 : Nat) (B4 : Option Addr) (e4 : Nat) (B5 : Option Addr) (e5 : Nat) (w : World), smallV d x → k25.C w A4 x.f4.length x.f4 → x.f4.length ≤ c4 → Kd.string.C w A5 x.f5.length x.f5 → x.f5.length ≤ c5 → k25.C w B4 y.f4.length y.f4 → y.f4.length ≤ e4 → Kd.string.C w B5 y.f5.length y.f5 → y.f5.length ≤ e5 →
      Calls Tryd.prog 54 #[.agg #[.int .i64 x.f0, .bool x.f1, .int .i64 x.f2, .string x.f3, .slice A4 x.f4.length c4, .slice A5 x.f5.length c5], .agg #[.int .i64 y.f0, .bool y.f1, .int .i64 y.f2, .string y.f3, .slice B4 y.f4.length e4, .slice B5 y.f5.length e5]] w fun e w' => e = .returned (.bool (sameV d x y)) ∧ Below w.heap.size w w' := by
  induction d with
  | zero => intro x y A4 c4 A5 c5 B4 e4 B5 e5 w hs; exact hs.elim
  | succ d ih =>
    intro x y A4 c4 A5 c5 B4 e4 B5 e5 w hs hx4 hc4 hx5 hc5 hy4 he4 hy5 he5
    obtain ⟨K, hK⟩ := eqS_eq x.f5 y.f5 hx5.2.1
    have HK := Aside0.mk (hK K (Nat.le_refl _))
    have X4 := Aside0.mk hx4
    have X5 := Aside0.mk hx5
    have Y4 := Aside0.mk hy4
    have Y5 := Aside0.mk hy5
    have HI := Aside0.mk ih
    have HS := Aside0.mk hs.2.2
    have HV := Aside0.mk (show sameV (d + 1) x y = (x.f0 == y.f0 && (x.f1 == y.f1 && (x.f2 == y.f2 && (x.f3.toList == y.f3.toList && (decide (x.f5 = y.f5) && allEq (sameV d) x.f4 y.f4))))) from rfl)
    have HB := Aside0.mk (Below.refl w.heap.size w)
    clear hK hx4 hx5 hy4 hy5 ih hs
    cases h0 : (x.f0 == y.f0) with
    | false =>
      rw [h0] at HV
      go_enter Tryd.func54, Tryd.ntmps54
      go_wp2
      go_ret
      exact ⟨by rw [HV.out]; rfl, qAd (qAd HB.out _) _⟩
    | true =>
    cases h1 : (x.f1 == y.f1) with
    | false =>
      rw [h0, h1] at HV
      go_enter Tryd.func54, Tryd.ntmps54
      go_wp2
      go_ret
      exact ⟨by rw [HV.out]; rfl, qAd (qAd HB.out _) _⟩
    | true =>
    cases h2 : (x.f2 == y.f2) with
    | false =>
      rw [h0, h1, h2] at HV
      go_enter Tryd.func54, Tryd.ntmps54
      go_wp2
      go_ret
      exact ⟨by rw [HV.out]; rfl, qAd (qAd HB.out _) _⟩
    | true =>
    cases h3 : (x.f3.toList == y.f3.toList) with
    | false =>
      rw [h0, h1, h2, h3] at HV
      go_enter Tryd.func54, Tryd.ntmps54
      go_wp2
      go_ret
      exact ⟨by rw [HV.out]; rfl, qAd (qAd HB.out _) _⟩
    | true =>
    rw [h0, h1, h2, h3] at HV
    obtain ⟨kb, hkb⟩ : ∃ kb, decide (x.f5 = y.f5) = kb := ⟨_, rfl⟩
    rw [hkb] at HV HK
    clear hkb
    cases kb with
    | false =>
      go_enter Tryd.func54, Tryd.ntmps54
      go_wp2_with (go_at_call 76; refine (slices_Equal_string_string.calls K _ _ x.f5 _ _ y.f5 false _ (Kd.C_alloc (Kd.C_alloc X5.out _) _) hc5 (Kd.C_alloc (Kd.C_alloc Y5.out _) _) he5 HK.out).mono ?_; rintro e w9 ⟨rfl, ⟨nd, rfl⟩⟩)
      go_ret
      exact ⟨by rw [HV.out]; rfl, qAc (qAd (qAd HB.out _) _) _⟩
    | true =>
      go_enter Tryd.func54, Tryd.ntmps54
      go_wp2_with (first | (go_at_call 76; refine (slices_Equal_string_string.calls K _ _ x.f5 _ _ y.f5 true _ (Kd.C_alloc (Kd.C_alloc X5.out _) _) hc5 (Kd.C_alloc (Kd.C_alloc Y5.out _) _) he5 HK.out).mono ?_; rintro e w9 ⟨rfl, ⟨nd, rfl⟩⟩) | (go_at_call 77; refine (qDk d HI.out x.f4 y.f4 _ _ _ _ _ HS.out (Kd.C_drewN (Kd.C_alloc (Kd.C_alloc X4.out _) _) _) hc4 (Kd.C_drewN (Kd.C_alloc (Kd.C_alloc Y4.out _) _) _) he4).mono ?_; rintro e w9 ⟨rfl, hb9⟩))
      go_ret
      exact ⟨by rw [HV.out]; rfl, qAj (qAc (qAd (qAd HB.out _) _) _) hb9⟩
end Go.Proofs.YtbnoihpooeombaaDoor.X

namespace Go.Proofs.YtbnoihpooeombaaDoor.X
open Go.RowKit Go.Proofs.YtbnoihpooeombaaDoorW.PrintWords Go.Proofs.YtbnoihpooeombaaDoorW.PrintLast Go.Proofs.YtbnoihpooeombaaDoorW.PrintMore Go.Proofs.YtbnoihpooeombaaDoor.P
set_option linter.unusedVariables false
set_option linter.unusedSimpArgs false
theorem qFr (f : S25 → Nat → Nat × Bool) (hf : ∀ x n, n + 1 ≤ (f x n).1) : ∀ l n, (mayL f l n).2 = true → n + l.length ≤ (mayL f l n).1 ∧ ∀ y ∈ l, ∃ m, (f y m).2 = true
  | [], n, _ => ⟨by simp [mayL], fun y hy => by cases hy⟩
  | x :: l, n, h => by
    unfold mayL at h ⊢
    by_cases c : (f x n).2 = true
    · rw [if_pos c] at h ⊢
      obtain ⟨h1, h2⟩ := qFr f hf l _ h
      have := hf x n
      refine ⟨by rw [List.length_cons]; omega, fun y hy => ?_⟩
      rcases List.mem_cons.1 hy with rfl | hy
      · exact ⟨n, c⟩
      · exact h2 y hy
    · rw [if_neg c] at h; cases h
theorem qGr (f : S25 → Nat → Nat × Bool) (hf : ∀ x n, n + 1 ≤ (f x n).1) : ∀ l n, n ≤ (mayL f l n).1
  | [], n => by simp [mayL]
  | x :: l, n => by
    have := hf x n
    unfold mayL
    by_cases c : (f x n).2 = true
    · rw [if_pos c]; have := qGr f hf l (f x n).1; omega
    · rw [if_neg c]; simp only; omega
theorem qGp : ∀ d x n, n + 1 ≤ (mayV d x n).1
  | 0, x, n => by simp [mayV]
  | d + 1, x, n => by
    unfold mayV
    by_cases c : n + 1 > 4000
    · rw [if_pos c]; simp
    · rw [if_neg c]
      by_cases c2 : qBc x = true
      · rw [if_pos c2]; exact qGr _ (qGp d) _ _
      · rw [if_neg c2]; simp
theorem qFc (x : S25) (h : qBc x = true) : x.f5.length = 0 ∨ x.f5.length = x.f4.length := by
  unfold qBc at h
  rw [Bool.and_eq_true] at h
  replace h := h.2
  split at h
  · left; simp at h; simp [h.2]
  split at h
  · left; simp at h; simp [h]
  split at h
  · left; simpa using h
  split at h
  · right; simp at h; exact h.1
  · cases h
theorem qBz : ∀ d x n, n ≤ 4000 → (mayV d x n).2 = true → smallV d x
  | 0, x, n, _, h => by simp [mayV] at h
  | d + 1, x, n, hn, h => by
    have hle := (qE2 (d + 1) x n hn).2 h
    unfold mayV at h hle
    by_cases c : n + 1 > 4000
    · rw [if_pos c] at h; cases h
    · rw [if_neg c] at h hle
      by_cases c2 : qBc x = true
      · rw [if_pos c2] at h hle
        obtain ⟨h1, h2⟩ := qFr _ (qGp d) _ _ h
        have hk := qFc x c2
        refine ⟨by omega, by omega, fun y hy => ?_⟩
        obtain ⟨m, hm⟩ := h2 y hy
        by_cases hm4 : m ≤ 4000
        · exact qBz d y m hm4 hm
        · cases d with
          | zero => simp [mayV] at hm
          | succ d =>
            unfold mayV at hm
            rw [if_pos (by omega)] at hm
            cases hm
      · rw [if_neg c2] at h; cases h
theorem qCn (w : World) (A B : Array Value) (t t' : TypeId) : ((w.alloc (.cells A t)).alloc (.cells B t')).heap[w.heap.size]? = some (.cells A t (0, 0)) ∧ ((w.alloc (.cells A t)).alloc (.cells B t')).heap[w.heap.size + 1]? = some (.cells B t' (0, 0)) := by
  refine ⟨blk_alloc' (qA9 w _) _, ?_⟩
  have := qA9 (w.alloc (.cells A t)) (.cells B t')
  rw [show (w.alloc (.cells A t)).heap.size = w.heap.size + 1 by simp [World.alloc, -World.alloc_eq]] at this
  exact this
theorem qAq {w : World} {g t : Nat} {u0 u1 u2 u3 u4 u5 : Value} (h : w.heap[g]? = some (.cells #[u0, u1, u2, u3, u4, u5] t (0, 0))) : w.cell? ⟨g, 0, none⟩ = some u0 ∧ w.cell? ⟨g, 1, none⟩ = some u1 ∧ w.cell? ⟨g, 2, none⟩ = some u2 ∧ w.cell? ⟨g, 3, none⟩ = some u3 ∧ w.cell? ⟨g, 4, none⟩ = some u4 ∧ w.cell? ⟨g, 5, none⟩ = some u5 :=
  ⟨(qAb h 0).trans rfl, (qAb h 1).trans rfl, (qAb h 2).trans rfl, (qAb h 3).trans rfl, (qAb h 4).trans rfl, (qAb h 5).trans rfl⟩
def value_Same.f (a0_0 : Int) (a0_1 : Bool) (a0_2 : Int) (a0_3 : ByteArray) (l0_4 : List S25) (l0_5 : List ByteArray) (a1_0 : Int) (a1_1 : Bool) (a1_2 : Int) (a1_3 : ByteArray) (l1_4 : List S25) (l1_5 : List ByteArray) : Option Bool :=
  some ((mayV 16 ⟨a0_0, a0_1, a0_2, a0_3, l0_4, l0_5⟩ 0).2 && ((mayV 16 ⟨a1_0, a1_1, a1_2, a1_3, l1_4, l1_5⟩ 0).2 && sameV 16 ⟨a0_0, a0_1, a0_2, a0_3, l0_4, l0_5⟩ ⟨a1_0, a1_1, a1_2, a1_3, l1_4, l1_5⟩))
set_option maxHeartbeats 1600000 in
set_option maxRecDepth 100000 in
theorem value_Same.calls (a0_0 : Int) (a0_1 : Bool) (a0_2 : Int) (a0_3 : ByteArray) (A0_4 : Option Addr) (c0_4 : Nat) (l0_4 : List S25) (A0_5 : Option Addr) (c0_5 : Nat) (l0_5 : List ByteArray) (a1_0 : Int) (a1_1 : Bool) (a1_2 : Int) (a1_3 : ByteArray) (A1_4 : Option Addr) (c1_4 : Nat) (l1_4 : List S25) (A1_5 : Option Addr) (c1_5 : Nat) (l1_5 : List ByteArray) (r : Bool) (w : World)
    (hr0_4 : Kd.C k25 w A0_4 l0_4.length l0_4) (hc0_4 : l0_4.length ≤ c0_4) (hr0_5 : Kd.C Kd.string w A0_5 l0_5.length l0_5) (hc0_5 : l0_5.length ≤ c0_5) (hr1_4 : Kd.C k25 w A1_4 l1_4.length l1_4) (hc1_4 : l1_4.length ≤ c1_4) (hr1_5 : Kd.C Kd.string w A1_5 l1_5.length l1_5) (hc1_5 : l1_5.length ≤ c1_5)
    (h : value_Same.f a0_0 a0_1 a0_2 a0_3 l0_4 l0_5 a1_0 a1_1 a1_2 a1_3 l1_4 l1_5 = some r) :
    Calls Tryd.prog 23 #[.agg #[.int .i64 a0_0, .bool a0_1, .int .i64 a0_2, .string a0_3, .slice A0_4 l0_4.length c0_4, .slice A0_5 l0_5.length c0_5], .agg #[.int .i64 a1_0, .bool a1_1, .int .i64 a1_2, .string a1_3, .slice A1_4 l1_4.length c1_4, .slice A1_5 l1_5.length c1_5]] w fun e w' => e = .returned (.bool r) ∧ Below w.heap.size w w' := by
  cases h
  have X4 := Aside0.mk hr0_4
  have X5 := Aside0.mk hr0_5
  have Y4 := Aside0.mk hr1_4
  have Y5 := Aside0.mk hr1_5
  have HB := Aside0.mk (Below.refl w.heap.size w)
  have HS := Aside0.mk (qBz 16 ⟨a0_0, a0_1, a0_2, a0_3, l0_4, l0_5⟩ 0 (by omega))
  have hm1 : value_May.f a0_0 a0_1 a0_2 a0_3 l0_4 l0_5 = some (mayV 16 ⟨a0_0, a0_1, a0_2, a0_3, l0_4, l0_5⟩ 0).2 := rfl
  have hm2 : value_May.f a1_0 a1_1 a1_2 a1_3 l1_4 l1_5 = some (mayV 16 ⟨a1_0, a1_1, a1_2, a1_3, l1_4, l1_5⟩ 0).2 := rfl
  generalize (mayV 16 ⟨a0_0, a0_1, a0_2, a0_3, l0_4, l0_5⟩ 0).2 = b1 at *
  generalize (mayV 16 ⟨a1_0, a1_1, a1_2, a1_3, l1_4, l1_5⟩ 0).2 = b2 at *
  have M1 := Aside0.mk hm1
  have M2 := Aside0.mk hm2
  clear hm1 hm2 hr0_4 hr0_5 hr1_4 hr1_5
  cases b1 with
  | false =>
    go_enter Tryd.func23, Tryd.ntmps23
    go_wp2_with (go_at_call 21; refine (value_May.calls a0_0 a0_1 a0_2 a0_3 _ _ l0_4 _ _ l0_5 false _ (Kd.C_alloc (Kd.C_alloc X4.out _) _) hc0_4 (Kd.C_alloc (Kd.C_alloc X5.out _) _) hc0_5 M1.out).mono ?_; rintro e w2 ⟨rfl, hb2⟩)
    go_ret
    exact ⟨rfl, qAj (qAd (qAd HB.out _) _) hb2⟩
  | true =>
    have HS1 := HS.out rfl
    have HS2 := Aside0.mk HS1
    clear HS HS1
    go_enter Tryd.func23, Tryd.ntmps23
    go_wp2_with fail
    refine (value_May.calls a0_0 a0_1 a0_2 a0_3 _ _ l0_4 _ _ l0_5 true _ (Kd.C_alloc (Kd.C_alloc X4.out _) _) hc0_4 (Kd.C_alloc (Kd.C_alloc X5.out _) _) hc0_5 M1.out).mono ?_
    rintro e w2 ⟨rfl, hb2⟩
    have HB2 := Aside0.mk (qAj (qAd (qAd HB.out _) _) hb2)
    have TB := qCn w #[.int .i64 a0_0, .bool a0_1, .int .i64 a0_2, .string a0_3, .slice A0_4 l0_4.length c0_4, .slice A0_5 l0_5.length c0_5] #[.int .i64 a1_0, .bool a1_1, .int .i64 a1_2, .string a1_3, .slice A1_4 l1_4.length c1_4, .slice A1_5 l1_5.length c1_5] 25 25
    have BA := Aside0.mk (qAm TB.1 hb2)
    have BB := Aside0.mk (qAm TB.2 hb2)
    clear TB hb2
    obtain ⟨x0, x1, x2, x3, x4, x5⟩ := qAq BA.out
    obtain ⟨y0, y1, y2, y3, y4, y5⟩ := qAq BB.out
    cases b2 with
    | false =>
      go_wp2_with (go_at_call 21; refine (value_May.calls a1_0 a1_1 a1_2 a1_3 _ _ l1_4 _ _ l1_5 false _ (Kd.C_below Y4.out HB2.out) hc1_4 (Kd.C_below Y5.out HB2.out) hc1_5 M2.out).mono ?_; rintro e w3 ⟨rfl, hb3⟩)
      go_ret
      exact ⟨rfl, qAj HB2.out hb3⟩
    | true =>
      go_wp2_with fail
      refine (value_May.calls a1_0 a1_1 a1_2 a1_3 _ _ l1_4 _ _ l1_5 true _ (Kd.C_below Y4.out HB2.out) hc1_4 (Kd.C_below Y5.out HB2.out) hc1_5 M2.out).mono ?_
      rintro e w3 ⟨rfl, hb3⟩
      have HB3 := Aside0.mk (qAj HB2.out hb3)
      have BA3 := Aside0.mk (qAm BA.out hb3)
      have BB3 := Aside0.mk (qAm BB.out hb3)
      clear hb3 x0 x1 x2 x3 x4 x5 y0 y1 y2 y3 y4 y5
      obtain ⟨x0, x1, x2, x3, x4, x5⟩ := qAq BA3.out
      obtain ⟨y0, y1, y2, y3, y4, y5⟩ := qAq BB3.out
      go_wp2_with fail
      refine (qFy 16 ⟨a0_0, a0_1, a0_2, a0_3, l0_4, l0_5⟩ ⟨a1_0, a1_1, a1_2, a1_3, l1_4, l1_5⟩ _ _ _ _ _ _ _ _ _ HS2.out (Kd.C_below X4.out HB3.out) hc0_4 (Kd.C_below X5.out HB3.out) hc0_5 (Kd.C_below Y4.out HB3.out) hc1_4 (Kd.C_below Y5.out HB3.out) hc1_5).mono ?_
      rintro e w4 ⟨rfl, hb4⟩
      have HB4 := Aside0.mk (qAj HB3.out hb4)
      clear hb4 x0 x1 x2 x3 x4 x5 y0 y1 y2 y3 y4 y5
      go_wp2
      go_ret
      exact ⟨rfl, HB4.out⟩
end Go.Proofs.YtbnoihpooeombaaDoor.X

namespace Go.Proofs.YtbnoihpooeombaaDoor.P
open Go.Proofs.YtbnoihpooeombaaDoor.X
open Go.RowKit Go.Proofs.YtbnoihpooeombaaDoorW.PrintWords Go.Proofs.YtbnoihpooeombaaDoorW.PrintLast Go.Proofs.YtbnoihpooeombaaDoorW.PrintMore
attribute [local go_sem] qAr qAx
set_option linter.unusedVariables false
set_option linter.unusedSimpArgs false
mutual
def hogsheadref15_Count.l0 : Nat → Int → Int → Int → Int → Bool → Int → ByteArray → List (S25) → List ByteArray → Option (Int)
 | 0, _, _, _, _, _, _, _, _, _ => none
 | k + 1, x1, x5, x6, x189000, x189001, x189002, x189003, x189004, x189005 => if x6 < (x189004.length : Int) then (if x5 ≤ 4000 then (if x1 > 0 then (if 0 ≤ x6 then ((hogsheadref15_Count.f k ((rd_T25 x189004 x6).f0) ((rd_T25 x189004 x6).f1) ((rd_T25 x189004 x6).f2) ((rd_T25 x189004 x6).f3) ((rd_T25 x189004 x6).f4) ((rd_T25 x189004 x6).f5) (wrap64 (x1 - 1))).bind fun t190 => (hogsheadref15_Count.l0 k x1 (wrap64 (x5 + t190)) (wrap64 (x6 + 1)) x189000 x189001 x189002 x189003 x189004 x189005)) else (none)) else (some (mn x5 4001))) else (some (mn x5 4001))) else (some (mn x5 4001))
def hogsheadref15_Count.f : Nat → Int → Bool → Int → ByteArray → List (S25) → List ByteArray → Int → Option (Int)
 | 0, _, _, _, _, _, _, _ => none
 | k + 1, a0_0, a0_1, a0_2, a0_3, l0_4, l0_5, a1 => hogsheadref15_Count.l0 k a1 1 0 a0_0 a0_1 a0_2 a0_3 l0_4 l0_5
end
set_option maxHeartbeats 8000000 in
set_option maxRecDepth 100000 in
theorem hogsheadref15_Count.calls (k : Nat) : ∀ (a0_0 : Int) (a0_1 : Bool) (a0_2 : Int) (a0_3 : ByteArray) (A0_4 : Option Addr) (c0_4 : Nat) (l0_4 : List (S25)) (A0_5 : Option Addr) (c0_5 : Nat) (l0_5 : List ByteArray) (a1 : Int) (r : Int) (w : World) (hr0_4 : Kd.C k25 w A0_4 l0_4.length l0_4) (hc0_4 : l0_4.length ≤ c0_4) (hr0_5 : Kd.C Kd.string w A0_5 l0_5.length l0_5) (hc0_5 : l0_5.length ≤ c0_5) (h : hogsheadref15_Count.f k a0_0 a0_1 a0_2 a0_3 l0_4 l0_5 a1 = some r),
  Calls Tryd.prog 52 #[.agg #[.int .i64 a0_0, .bool a0_1, .int .i64 a0_2, .string a0_3, .slice A0_4 l0_4.length c0_4, .slice A0_5 l0_5.length c0_5], .int .i64 a1] w fun e w' => e = .returned (.int .i64 r) ∧ Below w.heap.size w w' := by
 induction k using Nat.strongRecOn with
 | _ k ih =>
 intro a0_0 a0_1 a0_2 a0_3 A0_4 c0_4 l0_4 A0_5 c0_5 l0_5 a1 r w hr0_4 hc0_4 hr0_5 hc0_5 h
 cases k with
 | zero => exact absurd h (by simp [hogsheadref15_Count.f])
 | succ k =>
 simp only [hogsheadref15_Count.f] at h
 have hu25 := Tryd.underlying25
 have HR0_4 := Aside0.mk hr0_4
 have HC0_4 := Aside0.mk hc0_4
 clear hr0_4 hc0_4
 have HR0_5 := Aside0.mk hr0_5
 have HC0_5 := Aside0.mk hc0_5
 clear hr0_5 hc0_5
 have HB := Aside0.mk (Below.refl w.heap.size w)
 have H : (hogsheadref15_Count.l0 k a1 1 0 a0_0 a0_1 a0_2 a0_3 l0_4 l0_5) = some r := h
 clear h
 have H' := Aside0.mk H
 clear H
 go_enter Tryd.func52, Tryd.ntmps52
 go_wp2_with (first | ((with_reducible refine qAy (N := 2) rfl ?_); refine qAv ?hg (N := 2) ?hd (cs := #[.int .i64 a0_0, .bool a0_1, .int .i64 a0_2, .string a0_3, .slice A0_4 l0_4.length c0_4, .slice A0_5 l0_5.length c0_5]) (t := 25) ?hr ?_; (case hd => rfl); (case hg => rfl); (case hr => first | (go_simp; done) | (go_simp; rfl)); intro gb188 hg w3 hbox hb; have n0_ := Aside0.mk (qAj (by repeat (first | (with_reducible first | exact HB.out | apply qAd | apply qAc | apply qAe) | exact HB.out)) hb); have n1_ := Aside0.mk (hbox); have n2_ := Aside0.mk ((by rw [hg]; exact (qAn (by repeat (first | (with_reducible first | exact HB.out | apply qAd | apply qAc | apply qAe) | exact HB.out))) : w.heap.size ≤ gb188)); have n3_ := Aside0.mk ((by rw [hg]; exact (qAn (by repeat (first | (with_reducible first | exact HB.out | apply qAd | apply qAc | apply qAe) | exact HB.out))) : w.heap.size ≤ gb188)); clear HB; have HB := n0_; have BK188 := n1_; have GW188 := n2_; have GE188 := n3_; clear n0_ n1_ n2_ n3_; clear hb hbox hg))
 go_loopg [5, 6] k (fun kq v5 v6 w' => ∃ (x5_1 : Int) (x6_1 : Int), v5 = .int .i64 x5_1 ∧ v6 = .int .i64 x6_1 ∧ Aside0 (hogsheadref15_Count.l0 kq a1 x5_1 x6_1 a0_0 a0_1 a0_2 a0_3 l0_4 l0_5 = some r) ∧ Aside0 (kq ≤ k) ∧ Aside0 (w'.heap[gb188]? = some (.cells #[.int .i64 a0_0, .bool a0_1, .int .i64 a0_2, .string a0_3, (.slice A0_4 l0_4.length c0_4), (.slice A0_5 l0_5.length c0_5)] 25 (0, 0))) ∧ Aside0 (Below w.heap.size w w'))
 case atStart => exact ⟨(1), (0), (by first | rfl | (simp; done) | (simp [*]; done) | exact congrArg Value.bool (nil_ne _) | exact congrArg Value.bool (nil_eq _) | exact congrArg Value.bool (nil_ne' _)), (by first | rfl | (simp; done) | (simp [*]; done) | exact congrArg Value.bool (nil_ne _) | exact congrArg Value.bool (nil_eq _) | exact congrArg Value.bool (nil_ne' _)), H', ⟨Nat.le_refl _⟩, ⟨by (with_reducible repeat (first | refine qAg ?_ _ | refine qAi ?_ | refine blk_alloc ?_ _)); exact BK188.out⟩, ⟨by repeat (first | (with_reducible first | exact HB.out | apply qAd | apply qAc | apply qAe | refine qAf ?_ GE188.out) | exact HB.out)⟩⟩
 case round =>
  clear H'
  try clear p2
  obtain ⟨x5_1, x6_1, rfl, rfl, HA, HK1, BK188, HB⟩ := hrel
  cases gk with
  | zero => exact absurd HA.out (by simp [hogsheadref15_Count.l0])
  | succ k1 =>
   have H := HA.out
   clear HA
   simp only [hogsheadref15_Count.l0] at H
   by_cases c4 : x6_1 < (l0_4.length : Int)
   ·rw [if_pos c4] at H
    have c4b0 : decide (x6_1 < (l0_4.length : Int)) = true := decide_eq_true c4
    clear c4
    by_cases c5 : x5_1 ≤ 4000
    ·rw [if_pos c5] at H
     have c5b0 : decide (x5_1 ≤ 4000) = true := decide_eq_true c5
     clear c5
     by_cases c6 : a1 > 0
     ·rw [if_pos c6] at H
      have c6b0 : decide (0 < a1) = true := decide_eq_true c6
      clear c6
      by_cases c7 : 0 ≤ x6_1
      ·rw [if_pos c7] at H
       have c7b0 : decide (0 ≤ x6_1) = true := decide_eq_true c7
       clear c7
       replace H := Option.bind_eq_some_iff.mp H
       obtain ⟨t190, A80, H⟩ := H
       replace H : (hogsheadref15_Count.l0 k1 a1 (wrap64 (x5_1 + t190)) (wrap64 (x6_1 + 1)) a0_0 a0_1 a0_2 a0_3 l0_4 l0_5) = some r := H
       have A8 := Aside0.mk A80
       clear A80
       have H' := Aside0.mk H
       clear H
       have hcz9_0 : wr.cell? ⟨gb188, 0, none⟩ = some (.int .i64 a0_0) := (qAb BK188.out 0).trans rfl
       have hcz9_1 : wr.cell? ⟨gb188, 1, none⟩ = some (.bool a0_1) := (qAb BK188.out 1).trans rfl
       have hcz9_2 : wr.cell? ⟨gb188, 2, none⟩ = some (.int .i64 a0_2) := (qAb BK188.out 2).trans rfl
       have hcz9_3 : wr.cell? ⟨gb188, 3, none⟩ = some (.string a0_3) := (qAb BK188.out 3).trans rfl
       have hcz9_4 : wr.cell? ⟨gb188, 4, none⟩ = some (.slice A0_4 l0_4.length c0_4) := (qAb BK188.out 4).trans rfl
       have hcz9_5 : wr.cell? ⟨gb188, 5, none⟩ = some (.slice A0_5 l0_5.length c0_5) := (qAb BK188.out 5).trans rfl
       have hfz9_0 := qAa BK188.out 0
       have hfz9_1 := qAa BK188.out 1
       have hfz9_2 := qAa BK188.out 2
       have hfz9_3 := qAa BK188.out 3
       have hfz9_4 := qAa BK188.out 4
       have hfz9_5 := qAa BK188.out 5
       have p189 : 0 ≤ (x6_1 : Int) := of_decide_eq_true (by first | (with_reducible assumption) | assumption)
       have q189 : x6_1 < (l0_4.length : Int) := of_decide_eq_true (by first | (with_reducible assumption) | assumption)
       obtain ⟨ad189, A189_4, c189_4, A189_5, c189_5, e189, hx189_0, hx189_1, hx189_2, hx189_3, hx189_4, hx189_5, hl189_4, hi189_4, hl189_5, hi189_5⟩ := at_T25 HR0_4.out x6_1 p189 q189
       cases e189
       replace hx189_0 := (HB.out.cell (World.block_lt_of_cell? w _ hx189_0)).trans hx189_0
       replace hx189_1 := (HB.out.cell (World.block_lt_of_cell? w _ hx189_1)).trans hx189_1
       replace hx189_2 := (HB.out.cell (World.block_lt_of_cell? w _ hx189_2)).trans hx189_2
       replace hx189_3 := (HB.out.cell (World.block_lt_of_cell? w _ hx189_3)).trans hx189_3
       replace hx189_4 := (HB.out.cell (World.block_lt_of_cell? w _ hx189_4)).trans hx189_4
       replace hx189_5 := (HB.out.cell (World.block_lt_of_cell? w _ hx189_5)).trans hx189_5
       have HR189_4 := Aside0.mk hi189_4
       have HC189_4 := Aside0.mk hl189_4
       clear hi189_4 hl189_4
       have HR189_5 := Aside0.mk hi189_5
       have HC189_5 := Aside0.mk hl189_5
       clear hi189_5 hl189_5
       replace p189 := eq_true p189
       replace q189 := eq_true q189
       go_wp2_with (first | ((with_reducible refine qAp (f := 52) rfl ?_); refine goesL_ (some 30) rfl rfl Tryd.func52 (by kernel_rfl) rfl #[.agg #[.int .i64 ((rd_T25 l0_4 x6_1).f0), .bool ((rd_T25 l0_4 x6_1).f1), .int .i64 ((rd_T25 l0_4 x6_1).f2), .string ((rd_T25 l0_4 x6_1).f3), .slice A189_4 ((rd_T25 l0_4 x6_1).f4).length c189_4, .slice A189_5 ((rd_T25 l0_4 x6_1).f5).length c189_5], .int .i64 (wrap64 (a1 - 1))] rfl (by (try simp only [List.map_toArray, List.map_cons, List.map_nil]); first | done | rfl | (simp only [List.length_drop, List.length_take]; rfl)) ?_; (with_reducible refine (ih k1 (by have := HK1.out; omega) ((rd_T25 l0_4 x6_1).f0) ((rd_T25 l0_4 x6_1).f1) ((rd_T25 l0_4 x6_1).f2) ((rd_T25 l0_4 x6_1).f3) _ _ ((rd_T25 l0_4 x6_1).f4) _ _ ((rd_T25 l0_4 x6_1).f5) (wrap64 (a1 - 1)) t190 _ ?side1 ?side2 ?side3 ?side4 A8.out).mono ?_); (case side1 => repeat (first | exact (Kd.C_below HR189_4.out HB.out) | (with_reducible refine Kd.C_alloc ?_ _) | (with_reducible refine Kd.C_drewN ?_ _) | (with_reducible refine Kd.C_drew ?_))); (case side2 => exact HC189_4.out); (case side3 => repeat (first | exact (Kd.C_below HR189_5.out HB.out) | (with_reducible refine Kd.C_alloc ?_ _) | (with_reducible refine Kd.C_drewN ?_ _) | (with_reducible refine Kd.C_drew ?_))); (case side4 => exact HC189_5.out); rintro e w10 ⟨rfl, hb⟩; refine ⟨_, rfl, ?_⟩; have n0_ := Aside0.mk (qAm (g := gb188) (o := .cells #[.int .i64 a0_0, .bool a0_1, .int .i64 a0_2, .string a0_3, .slice (some ad189) l0_4.length c0_4, .slice A0_5 l0_5.length c0_5] 25 (0, 0)) (by (with_reducible repeat (first | refine qAg ?_ _ | refine qAi ?_ | refine blk_alloc ?_ _)); exact BK188.out) hb); have n1_ := Aside0.mk (qAj (by repeat (first | (with_reducible first | exact HB.out | apply qAd | apply qAc | apply qAe | refine qAf ?_ GE188.out) | exact HB.out)) hb); clear BK188; clear HB; have BK188 := n0_; have HB := n1_; clear n0_ n1_; (try clear hb); (try clear hb2); (try clear hk); (try clear hi)))
       go_roundg k1
       case measure => have := HK1.out; omega
       case rel => exact ⟨(wrap64 (x5_1 + t190)), (wrap64 (x6_1 + 1)), (by first | rfl | (simp; done) | (simp [*]; done) | exact congrArg Value.bool (nil_ne _) | exact congrArg Value.bool (nil_eq _) | exact congrArg Value.bool (nil_ne' _)), (by first | rfl | (simp; done) | (simp [*]; done) | exact congrArg Value.bool (nil_ne _) | exact congrArg Value.bool (nil_eq _) | exact congrArg Value.bool (nil_ne' _)), H', ⟨by have := HK1.out; omega⟩, ⟨by (with_reducible repeat (first | refine qAg ?_ _ | refine qAi ?_ | refine blk_alloc ?_ _)); exact BK188.out⟩, ⟨by repeat (first | (with_reducible first | exact HB.out | apply qAd | apply qAc | apply qAe | refine qAf ?_ GE188.out) | exact HB.out)⟩⟩
      ·rw [if_neg c7] at H
       exact absurd H (by simp)
     ·rw [if_neg c6] at H
      have c6b0 : decide (0 < a1) = false := decide_eq_false c6
      clear c6
      obtain ⟨ji11, hji11⟩ : ∃ j_ : Int, (mn x5_1 4001) = j_ := ⟨_, rfl⟩
      replace H : (some ji11) = some r := by first | (rw [hji11] at H; exact H) | (simp only [hji11] at H ⊢; exact H)
      have hji11_ : (if 4001 < x5_1 then 4001 else x5_1) = ji11 := hji11
      obtain rfl := Option.some.inj H
      have hcz12_0 : wr.cell? ⟨gb188, 0, none⟩ = some (.int .i64 a0_0) := (qAb BK188.out 0).trans rfl
      have hcz12_1 : wr.cell? ⟨gb188, 1, none⟩ = some (.bool a0_1) := (qAb BK188.out 1).trans rfl
      have hcz12_2 : wr.cell? ⟨gb188, 2, none⟩ = some (.int .i64 a0_2) := (qAb BK188.out 2).trans rfl
      have hcz12_3 : wr.cell? ⟨gb188, 3, none⟩ = some (.string a0_3) := (qAb BK188.out 3).trans rfl
      have hcz12_4 : wr.cell? ⟨gb188, 4, none⟩ = some (.slice A0_4 l0_4.length c0_4) := (qAb BK188.out 4).trans rfl
      have hcz12_5 : wr.cell? ⟨gb188, 5, none⟩ = some (.slice A0_5 l0_5.length c0_5) := (qAb BK188.out 5).trans rfl
      have hfz12_0 := qAa BK188.out 0
      have hfz12_1 := qAa BK188.out 1
      have hfz12_2 := qAa BK188.out 2
      have hfz12_3 := qAa BK188.out 3
      have hfz12_4 := qAa BK188.out 4
      have hfz12_5 := qAa BK188.out 5
      go_wp2
      go_ret
      exact ⟨by first | rfl | (simp [qAl, qAk] <;> rfl) | (simp only [← hji11]; first | rfl | (simp [qAl, qAk] <;> rfl)) | (simp [*, qAl, qAk] <;> rfl), by repeat (first | (with_reducible first | exact HB.out | apply qAd | apply qAc | apply qAe | refine qAf ?_ GE188.out) | exact HB.out)⟩
    ·rw [if_neg c5] at H
     have c5b0 : decide (x5_1 ≤ 4000) = false := decide_eq_false c5
     clear c5
     obtain ⟨ji13, hji13⟩ : ∃ j_ : Int, (mn x5_1 4001) = j_ := ⟨_, rfl⟩
     replace H : (some ji13) = some r := by first | (rw [hji13] at H; exact H) | (simp only [hji13] at H ⊢; exact H)
     have hji13_ : (if 4001 < x5_1 then 4001 else x5_1) = ji13 := hji13
     obtain rfl := Option.some.inj H
     have hcz14_0 : wr.cell? ⟨gb188, 0, none⟩ = some (.int .i64 a0_0) := (qAb BK188.out 0).trans rfl
     have hcz14_1 : wr.cell? ⟨gb188, 1, none⟩ = some (.bool a0_1) := (qAb BK188.out 1).trans rfl
     have hcz14_2 : wr.cell? ⟨gb188, 2, none⟩ = some (.int .i64 a0_2) := (qAb BK188.out 2).trans rfl
     have hcz14_3 : wr.cell? ⟨gb188, 3, none⟩ = some (.string a0_3) := (qAb BK188.out 3).trans rfl
     have hcz14_4 : wr.cell? ⟨gb188, 4, none⟩ = some (.slice A0_4 l0_4.length c0_4) := (qAb BK188.out 4).trans rfl
     have hcz14_5 : wr.cell? ⟨gb188, 5, none⟩ = some (.slice A0_5 l0_5.length c0_5) := (qAb BK188.out 5).trans rfl
     have hfz14_0 := qAa BK188.out 0
     have hfz14_1 := qAa BK188.out 1
     have hfz14_2 := qAa BK188.out 2
     have hfz14_3 := qAa BK188.out 3
     have hfz14_4 := qAa BK188.out 4
     have hfz14_5 := qAa BK188.out 5
     go_wp2
     go_ret
     exact ⟨by first | rfl | (simp [qAl, qAk] <;> rfl) | (simp only [← hji13]; first | rfl | (simp [qAl, qAk] <;> rfl)) | (simp [*, qAl, qAk] <;> rfl), by repeat (first | (with_reducible first | exact HB.out | apply qAd | apply qAc | apply qAe | refine qAf ?_ GE188.out) | exact HB.out)⟩
   ·rw [if_neg c4] at H
    have c4b0 : decide (x6_1 < (l0_4.length : Int)) = false := decide_eq_false c4
    clear c4
    obtain ⟨ji15, hji15⟩ : ∃ j_ : Int, (mn x5_1 4001) = j_ := ⟨_, rfl⟩
    replace H : (some ji15) = some r := by first | (rw [hji15] at H; exact H) | (simp only [hji15] at H ⊢; exact H)
    have hji15_ : (if 4001 < x5_1 then 4001 else x5_1) = ji15 := hji15
    obtain rfl := Option.some.inj H
    have hcz16_0 : wr.cell? ⟨gb188, 0, none⟩ = some (.int .i64 a0_0) := (qAb BK188.out 0).trans rfl
    have hcz16_1 : wr.cell? ⟨gb188, 1, none⟩ = some (.bool a0_1) := (qAb BK188.out 1).trans rfl
    have hcz16_2 : wr.cell? ⟨gb188, 2, none⟩ = some (.int .i64 a0_2) := (qAb BK188.out 2).trans rfl
    have hcz16_3 : wr.cell? ⟨gb188, 3, none⟩ = some (.string a0_3) := (qAb BK188.out 3).trans rfl
    have hcz16_4 : wr.cell? ⟨gb188, 4, none⟩ = some (.slice A0_4 l0_4.length c0_4) := (qAb BK188.out 4).trans rfl
    have hcz16_5 : wr.cell? ⟨gb188, 5, none⟩ = some (.slice A0_5 l0_5.length c0_5) := (qAb BK188.out 5).trans rfl
    have hfz16_0 := qAa BK188.out 0
    have hfz16_1 := qAa BK188.out 1
    have hfz16_2 := qAa BK188.out 2
    have hfz16_3 := qAa BK188.out 3
    have hfz16_4 := qAa BK188.out 4
    have hfz16_5 := qAa BK188.out 5
    go_wp2
    go_ret
    exact ⟨by first | rfl | (simp [qAl, qAk] <;> rfl) | (simp only [← hji15]; first | rfl | (simp [qAl, qAk] <;> rfl)) | (simp [*, qAl, qAk] <;> rfl), by repeat (first | (with_reducible first | exact HB.out | apply qAd | apply qAc | apply qAe | refine qAf ?_ GE188.out) | exact HB.out)⟩
end Go.Proofs.YtbnoihpooeombaaDoor.P

namespace Go.Proofs.YtbnoihpooeombaaDoor.P
open Go.Proofs.YtbnoihpooeombaaDoor.X
open Go.RowKit Go.Proofs.YtbnoihpooeombaaDoorW.PrintWords Go.Proofs.YtbnoihpooeombaaDoorW.PrintLast Go.Proofs.YtbnoihpooeombaaDoorW.PrintMore
attribute [local go_sem] qAr qAx
set_option linter.unusedVariables false
set_option linter.unusedSimpArgs false
def hogsheadref15_plain.j0 : Nat → Bool → Int → Bool → Int → ByteArray → List (S25) → List ByteArray → Option (Bool)
 | 0, _, _, _, _, _, _, _ => none
 | k + 1, x29, x192000, x192001, x192002, x192003, x192004, x192005 => if x29 = true then (some false) else (if x192000 = 4 then (if x192000 = 5 then (some true) else (some ((x192005.length : Int) == 0))) else (if x192000 = 5 then (some true) else (if (x192004.length : Int) > 0 then (some false) else (some ((x192005.length : Int) == 0)))))
def hogsheadref15_plain.f (k : Nat) (a0_0 : Int) (a0_1 : Bool) (a0_2 : Int) (a0_3 : ByteArray) (l0_4 : List (S25)) (l0_5 : List ByteArray) : Option (Bool) := if a0_0 = 1 then (if a0_0 = 2 then (if a0_0 = 3 then (hogsheadref15_plain.j0 k false a0_0 a0_1 a0_2 a0_3 l0_4 l0_5) else (hogsheadref15_plain.j0 k (a0_3.toList != ([] : List UInt8)) a0_0 a0_1 a0_2 a0_3 l0_4 l0_5)) else (if a0_2 = 0 then (if a0_0 = 3 then (hogsheadref15_plain.j0 k false a0_0 a0_1 a0_2 a0_3 l0_4 l0_5) else (hogsheadref15_plain.j0 k (a0_3.toList != ([] : List UInt8)) a0_0 a0_1 a0_2 a0_3 l0_4 l0_5)) else (hogsheadref15_plain.j0 k true a0_0 a0_1 a0_2 a0_3 l0_4 l0_5))) else (if a0_1 = true then (hogsheadref15_plain.j0 k true a0_0 a0_1 a0_2 a0_3 l0_4 l0_5) else (if a0_0 = 2 then (if a0_0 = 3 then (hogsheadref15_plain.j0 k false a0_0 a0_1 a0_2 a0_3 l0_4 l0_5) else (hogsheadref15_plain.j0 k (a0_3.toList != ([] : List UInt8)) a0_0 a0_1 a0_2 a0_3 l0_4 l0_5)) else (if a0_2 = 0 then (if a0_0 = 3 then (hogsheadref15_plain.j0 k false a0_0 a0_1 a0_2 a0_3 l0_4 l0_5) else (hogsheadref15_plain.j0 k (a0_3.toList != ([] : List UInt8)) a0_0 a0_1 a0_2 a0_3 l0_4 l0_5)) else (hogsheadref15_plain.j0 k true a0_0 a0_1 a0_2 a0_3 l0_4 l0_5))))
set_option maxHeartbeats 8000000 in
set_option maxRecDepth 100000 in
theorem hogsheadref15_plain.calls (k : Nat) (a0_0 : Int) (a0_1 : Bool) (a0_2 : Int) (a0_3 : ByteArray) (A0_4 : Option Addr) (c0_4 : Nat) (l0_4 : List (S25)) (A0_5 : Option Addr) (c0_5 : Nat) (l0_5 : List ByteArray) (r : Bool) (w : World) (hr0_4 : Kd.C k25 w A0_4 l0_4.length l0_4) (hc0_4 : l0_4.length ≤ c0_4) (hr0_5 : Kd.C Kd.string w A0_5 l0_5.length l0_5) (hc0_5 : l0_5.length ≤ c0_5) (h : hogsheadref15_plain.f k a0_0 a0_1 a0_2 a0_3 l0_4 l0_5 = some r) :
  Calls Tryd.prog 75 #[.agg #[.int .i64 a0_0, .bool a0_1, .int .i64 a0_2, .string a0_3, .slice A0_4 l0_4.length c0_4, .slice A0_5 l0_5.length c0_5]] w fun e w' => e = .returned (.bool r) ∧ Below w.heap.size w w' := by
 have hu25 := Tryd.underlying25
 have HR0_4 := Aside0.mk hr0_4
 have HC0_4 := Aside0.mk hc0_4
 clear hr0_4 hc0_4
 have HR0_5 := Aside0.mk hr0_5
 have HC0_5 := Aside0.mk hc0_5
 clear hr0_5 hc0_5
 have HB := Aside0.mk (Below.refl w.heap.size w)
 have H : (if a0_0 = 1 then (if a0_0 = 2 then (if a0_0 = 3 then (hogsheadref15_plain.j0 k false a0_0 a0_1 a0_2 a0_3 l0_4 l0_5) else (hogsheadref15_plain.j0 k (a0_3.toList != ([] : List UInt8)) a0_0 a0_1 a0_2 a0_3 l0_4 l0_5)) else (if a0_2 = 0 then (if a0_0 = 3 then (hogsheadref15_plain.j0 k false a0_0 a0_1 a0_2 a0_3 l0_4 l0_5) else (hogsheadref15_plain.j0 k (a0_3.toList != ([] : List UInt8)) a0_0 a0_1 a0_2 a0_3 l0_4 l0_5)) else (hogsheadref15_plain.j0 k true a0_0 a0_1 a0_2 a0_3 l0_4 l0_5))) else (if a0_1 = true then (hogsheadref15_plain.j0 k true a0_0 a0_1 a0_2 a0_3 l0_4 l0_5) else (if a0_0 = 2 then (if a0_0 = 3 then (hogsheadref15_plain.j0 k false a0_0 a0_1 a0_2 a0_3 l0_4 l0_5) else (hogsheadref15_plain.j0 k (a0_3.toList != ([] : List UInt8)) a0_0 a0_1 a0_2 a0_3 l0_4 l0_5)) else (if a0_2 = 0 then (if a0_0 = 3 then (hogsheadref15_plain.j0 k false a0_0 a0_1 a0_2 a0_3 l0_4 l0_5) else (hogsheadref15_plain.j0 k (a0_3.toList != ([] : List UInt8)) a0_0 a0_1 a0_2 a0_3 l0_4 l0_5)) else (hogsheadref15_plain.j0 k true a0_0 a0_1 a0_2 a0_3 l0_4 l0_5))))) = some r := h
 clear h
 have HC2 := Aside0.mk H
 clear H
 go_enter Tryd.func75, Tryd.ntmps75
 go_upto_region 1 with (first | ((with_reducible refine qAy (N := 1) rfl ?_); (try (refine qBn (by rfl) ?_; dsimp only)); refine qAv ?hg (N := 1) ?hd (cs := #[.int .i64 a0_0, .bool a0_1, .int .i64 a0_2, .string a0_3, .slice A0_4 l0_4.length c0_4, .slice A0_5 l0_5.length c0_5]) (t := 25) ?hr ?_; (case hd => rfl); (case hg => rfl); (case hr => first | (go_simp; done) | (go_simp; rfl)); intro gb191 hg w3 hbox hb; have n0_ := Aside0.mk (qAj (by repeat (first | (with_reducible first | exact HB.out | apply qAd | apply qAc | apply qAe) | exact HB.out)) hb); have n1_ := Aside0.mk (hbox); have n2_ := Aside0.mk ((by rw [hg]; exact (qAn (by repeat (first | (with_reducible first | exact HB.out | apply qAd | apply qAc | apply qAe) | exact HB.out))) : w.heap.size ≤ gb191)); have n3_ := Aside0.mk ((by rw [hg]; exact (qAn (by repeat (first | (with_reducible first | exact HB.out | apply qAd | apply qAc | apply qAe) | exact HB.out))) : w.heap.size ≤ gb191)); clear HB; have HB := n0_; have BK191 := n1_; have GW191 := n2_; have GE191 := n3_; clear n0_ n1_ n2_ n3_; clear hb hbox hg))
 (try simp only [Act.put, List.setIfInBounds_toArray, List.set_cons_zero, List.set_cons_succ])
 go_cut [29] (fun v29 wc => ∃ (kq : Nat) (x29_1 : Bool), v29 = .bool x29_1 ∧ Aside0 (hogsheadref15_plain.j0 kq x29_1 a0_0 a0_1 a0_2 a0_3 l0_4 l0_5 = some r) ∧ Aside0 (kq ≤ k) ∧ Aside0 (wc.heap[gb191]? = some (.cells #[.int .i64 a0_0, .bool a0_1, .int .i64 a0_2, .string a0_3, (.slice A0_4 l0_4.length c0_4), (.slice A0_5 l0_5.length c0_5)] 25 (0, 0))) ∧ Aside0 (Below w.heap.size w wc))
 case first =>
  have H := HC2.out
  clear HC2
  by_cases c4 : a0_0 = 1
  ·rw [if_pos c4] at H
   have c4b0 : (a0_0 == 1) = true := beq_iff_eq.mpr c4
   have c4b1 : (a0_0 != 1) = false := bne_eq_false_iff_eq.mpr c4
   clear c4
   (first | rw [c4b0] | (simp only [i64_w, i32_w]; rw [c4b0]) | skip)
   by_cases c5 : a0_0 = 2
   ·rw [if_pos c5] at H
    have c5b0 : (a0_0 == 2) = true := beq_iff_eq.mpr c5
    have c5b1 : (a0_0 != 2) = false := bne_eq_false_iff_eq.mpr c5
    clear c5
    by_cases c6 : a0_0 = 3
    ·rw [if_pos c6] at H
     have c6b0 : (a0_0 == 3) = true := beq_iff_eq.mpr c6
     have c6b1 : (a0_0 != 3) = false := bne_eq_false_iff_eq.mpr c6
     clear c6
     have H' := Aside0.mk H
     clear H
     have hcz7_0 : w3.cell? ⟨gb191, 0, none⟩ = some (.int .i64 a0_0) := (qAb BK191.out 0).trans rfl
     have hcz7_1 : w3.cell? ⟨gb191, 1, none⟩ = some (.bool a0_1) := (qAb BK191.out 1).trans rfl
     have hcz7_2 : w3.cell? ⟨gb191, 2, none⟩ = some (.int .i64 a0_2) := (qAb BK191.out 2).trans rfl
     have hcz7_3 : w3.cell? ⟨gb191, 3, none⟩ = some (.string a0_3) := (qAb BK191.out 3).trans rfl
     have hcz7_4 : w3.cell? ⟨gb191, 4, none⟩ = some (.slice A0_4 l0_4.length c0_4) := (qAb BK191.out 4).trans rfl
     have hcz7_5 : w3.cell? ⟨gb191, 5, none⟩ = some (.slice A0_5 l0_5.length c0_5) := (qAb BK191.out 5).trans rfl
     have hfz7_0 := qAa BK191.out 0
     have hfz7_1 := qAa BK191.out 1
     have hfz7_2 := qAa BK191.out 2
     have hfz7_3 := qAa BK191.out 3
     have hfz7_4 := qAa BK191.out 4
     have hfz7_5 := qAa BK191.out 5
     go_wp2
     go_meet
     case rel => exact ⟨_, (false), (by first | rfl | (simp; done) | (simp [*]; done) | exact congrArg Value.bool (nil_ne _) | exact congrArg Value.bool (nil_eq _) | exact congrArg Value.bool (nil_ne' _)), H', ⟨by first | omega | exact Nat.le_refl _⟩, ⟨by (with_reducible repeat (first | refine qAg ?_ _ | refine qAi ?_ | refine blk_alloc ?_ _)); exact BK191.out⟩, ⟨by repeat (first | (with_reducible first | exact HB.out | apply qAd | apply qAc | apply qAe | refine qAf ?_ GE191.out) | exact HB.out)⟩⟩
    ·rw [if_neg c6] at H
     have c6b0 : (a0_0 == 3) = false := beq_eq_false_iff_ne.mpr c6
     have c6b1 : (a0_0 != 3) = true := bne_iff_ne.mpr c6
     have H' := Aside0.mk H
     clear H
     have hcz8_0 : w3.cell? ⟨gb191, 0, none⟩ = some (.int .i64 a0_0) := (qAb BK191.out 0).trans rfl
     have hcz8_1 : w3.cell? ⟨gb191, 1, none⟩ = some (.bool a0_1) := (qAb BK191.out 1).trans rfl
     have hcz8_2 : w3.cell? ⟨gb191, 2, none⟩ = some (.int .i64 a0_2) := (qAb BK191.out 2).trans rfl
     have hcz8_3 : w3.cell? ⟨gb191, 3, none⟩ = some (.string a0_3) := (qAb BK191.out 3).trans rfl
     have hcz8_4 : w3.cell? ⟨gb191, 4, none⟩ = some (.slice A0_4 l0_4.length c0_4) := (qAb BK191.out 4).trans rfl
     have hcz8_5 : w3.cell? ⟨gb191, 5, none⟩ = some (.slice A0_5 l0_5.length c0_5) := (qAb BK191.out 5).trans rfl
     have hfz8_0 := qAa BK191.out 0
     have hfz8_1 := qAa BK191.out 1
     have hfz8_2 := qAa BK191.out 2
     have hfz8_3 := qAa BK191.out 3
     have hfz8_4 := qAa BK191.out 4
     have hfz8_5 := qAa BK191.out 5
     go_wp2
     go_meet
     case rel => exact ⟨_, ((a0_3.toList != ([] : List UInt8))), (by first | rfl | (simp; done) | (simp [*]; done) | exact congrArg Value.bool (nil_ne _) | exact congrArg Value.bool (nil_eq _) | exact congrArg Value.bool (nil_ne' _)), H', ⟨by first | omega | exact Nat.le_refl _⟩, ⟨by (with_reducible repeat (first | refine qAg ?_ _ | refine qAi ?_ | refine blk_alloc ?_ _)); exact BK191.out⟩, ⟨by repeat (first | (with_reducible first | exact HB.out | apply qAd | apply qAc | apply qAe | refine qAf ?_ GE191.out) | exact HB.out)⟩⟩
   ·rw [if_neg c5] at H
    have c5b0 : (a0_0 == 2) = false := beq_eq_false_iff_ne.mpr c5
    have c5b1 : (a0_0 != 2) = true := bne_iff_ne.mpr c5
    by_cases c9 : a0_2 = 0
    ·rw [if_pos c9] at H
     have c9b0 : (a0_2 == 0) = true := beq_iff_eq.mpr c9
     have c9b1 : (a0_2 != 0) = false := bne_eq_false_iff_eq.mpr c9
     clear c9
     by_cases c10 : a0_0 = 3
     ·rw [if_pos c10] at H
      have c10b0 : (a0_0 == 3) = true := beq_iff_eq.mpr c10
      have c10b1 : (a0_0 != 3) = false := bne_eq_false_iff_eq.mpr c10
      clear c10
      have H' := Aside0.mk H
      clear H
      have hcz11_0 : w3.cell? ⟨gb191, 0, none⟩ = some (.int .i64 a0_0) := (qAb BK191.out 0).trans rfl
      have hcz11_1 : w3.cell? ⟨gb191, 1, none⟩ = some (.bool a0_1) := (qAb BK191.out 1).trans rfl
      have hcz11_2 : w3.cell? ⟨gb191, 2, none⟩ = some (.int .i64 a0_2) := (qAb BK191.out 2).trans rfl
      have hcz11_3 : w3.cell? ⟨gb191, 3, none⟩ = some (.string a0_3) := (qAb BK191.out 3).trans rfl
      have hcz11_4 : w3.cell? ⟨gb191, 4, none⟩ = some (.slice A0_4 l0_4.length c0_4) := (qAb BK191.out 4).trans rfl
      have hcz11_5 : w3.cell? ⟨gb191, 5, none⟩ = some (.slice A0_5 l0_5.length c0_5) := (qAb BK191.out 5).trans rfl
      have hfz11_0 := qAa BK191.out 0
      have hfz11_1 := qAa BK191.out 1
      have hfz11_2 := qAa BK191.out 2
      have hfz11_3 := qAa BK191.out 3
      have hfz11_4 := qAa BK191.out 4
      have hfz11_5 := qAa BK191.out 5
      go_wp2
      go_meet
      case rel => exact ⟨_, (false), (by first | rfl | (simp; done) | (simp [*]; done) | exact congrArg Value.bool (nil_ne _) | exact congrArg Value.bool (nil_eq _) | exact congrArg Value.bool (nil_ne' _)), H', ⟨by first | omega | exact Nat.le_refl _⟩, ⟨by (with_reducible repeat (first | refine qAg ?_ _ | refine qAi ?_ | refine blk_alloc ?_ _)); exact BK191.out⟩, ⟨by repeat (first | (with_reducible first | exact HB.out | apply qAd | apply qAc | apply qAe | refine qAf ?_ GE191.out) | exact HB.out)⟩⟩
     ·rw [if_neg c10] at H
      have c10b0 : (a0_0 == 3) = false := beq_eq_false_iff_ne.mpr c10
      have c10b1 : (a0_0 != 3) = true := bne_iff_ne.mpr c10
      have H' := Aside0.mk H
      clear H
      have hcz12_0 : w3.cell? ⟨gb191, 0, none⟩ = some (.int .i64 a0_0) := (qAb BK191.out 0).trans rfl
      have hcz12_1 : w3.cell? ⟨gb191, 1, none⟩ = some (.bool a0_1) := (qAb BK191.out 1).trans rfl
      have hcz12_2 : w3.cell? ⟨gb191, 2, none⟩ = some (.int .i64 a0_2) := (qAb BK191.out 2).trans rfl
      have hcz12_3 : w3.cell? ⟨gb191, 3, none⟩ = some (.string a0_3) := (qAb BK191.out 3).trans rfl
      have hcz12_4 : w3.cell? ⟨gb191, 4, none⟩ = some (.slice A0_4 l0_4.length c0_4) := (qAb BK191.out 4).trans rfl
      have hcz12_5 : w3.cell? ⟨gb191, 5, none⟩ = some (.slice A0_5 l0_5.length c0_5) := (qAb BK191.out 5).trans rfl
      have hfz12_0 := qAa BK191.out 0
      have hfz12_1 := qAa BK191.out 1
      have hfz12_2 := qAa BK191.out 2
      have hfz12_3 := qAa BK191.out 3
      have hfz12_4 := qAa BK191.out 4
      have hfz12_5 := qAa BK191.out 5
      go_wp2
      go_meet
      case rel => exact ⟨_, ((a0_3.toList != ([] : List UInt8))), (by first | rfl | (simp; done) | (simp [*]; done) | exact congrArg Value.bool (nil_ne _) | exact congrArg Value.bool (nil_eq _) | exact congrArg Value.bool (nil_ne' _)), H', ⟨by first | omega | exact Nat.le_refl _⟩, ⟨by (with_reducible repeat (first | refine qAg ?_ _ | refine qAi ?_ | refine blk_alloc ?_ _)); exact BK191.out⟩, ⟨by repeat (first | (with_reducible first | exact HB.out | apply qAd | apply qAc | apply qAe | refine qAf ?_ GE191.out) | exact HB.out)⟩⟩
    ·rw [if_neg c9] at H
     have c9b0 : (a0_2 == 0) = false := beq_eq_false_iff_ne.mpr c9
     have c9b1 : (a0_2 != 0) = true := bne_iff_ne.mpr c9
     have H' := Aside0.mk H
     clear H
     have hcz13_0 : w3.cell? ⟨gb191, 0, none⟩ = some (.int .i64 a0_0) := (qAb BK191.out 0).trans rfl
     have hcz13_1 : w3.cell? ⟨gb191, 1, none⟩ = some (.bool a0_1) := (qAb BK191.out 1).trans rfl
     have hcz13_2 : w3.cell? ⟨gb191, 2, none⟩ = some (.int .i64 a0_2) := (qAb BK191.out 2).trans rfl
     have hcz13_3 : w3.cell? ⟨gb191, 3, none⟩ = some (.string a0_3) := (qAb BK191.out 3).trans rfl
     have hcz13_4 : w3.cell? ⟨gb191, 4, none⟩ = some (.slice A0_4 l0_4.length c0_4) := (qAb BK191.out 4).trans rfl
     have hcz13_5 : w3.cell? ⟨gb191, 5, none⟩ = some (.slice A0_5 l0_5.length c0_5) := (qAb BK191.out 5).trans rfl
     have hfz13_0 := qAa BK191.out 0
     have hfz13_1 := qAa BK191.out 1
     have hfz13_2 := qAa BK191.out 2
     have hfz13_3 := qAa BK191.out 3
     have hfz13_4 := qAa BK191.out 4
     have hfz13_5 := qAa BK191.out 5
     go_wp2
     go_meet
     case rel => exact ⟨_, (true), (by first | rfl | (simp; done) | (simp [*]; done) | exact congrArg Value.bool (nil_ne _) | exact congrArg Value.bool (nil_eq _) | exact congrArg Value.bool (nil_ne' _)), H', ⟨by first | omega | exact Nat.le_refl _⟩, ⟨by (with_reducible repeat (first | refine qAg ?_ _ | refine qAi ?_ | refine blk_alloc ?_ _)); exact BK191.out⟩, ⟨by repeat (first | (with_reducible first | exact HB.out | apply qAd | apply qAc | apply qAe | refine qAf ?_ GE191.out) | exact HB.out)⟩⟩
  ·rw [if_neg c4] at H
   have c4b0 : (a0_0 == 1) = false := beq_eq_false_iff_ne.mpr c4
   have c4b1 : (a0_0 != 1) = true := bne_iff_ne.mpr c4
   (first | rw [c4b0] | (simp only [i64_w, i32_w]; rw [c4b0]) | skip)
   by_cases c14 : a0_1 = true
   ·subst c14
    have H1 : (hogsheadref15_plain.j0 k true a0_0 true a0_2 a0_3 l0_4 l0_5) = some r := by rw [if_pos rfl] at H; exact H
    clear H
    have H := H1
    clear H1
    have H' := Aside0.mk H
    clear H
    have hcz15_0 : w3.cell? ⟨gb191, 0, none⟩ = some (.int .i64 a0_0) := (qAb BK191.out 0).trans rfl
    have hcz15_1 : w3.cell? ⟨gb191, 1, none⟩ = some (.bool true) := (qAb BK191.out 1).trans rfl
    have hcz15_2 : w3.cell? ⟨gb191, 2, none⟩ = some (.int .i64 a0_2) := (qAb BK191.out 2).trans rfl
    have hcz15_3 : w3.cell? ⟨gb191, 3, none⟩ = some (.string a0_3) := (qAb BK191.out 3).trans rfl
    have hcz15_4 : w3.cell? ⟨gb191, 4, none⟩ = some (.slice A0_4 l0_4.length c0_4) := (qAb BK191.out 4).trans rfl
    have hcz15_5 : w3.cell? ⟨gb191, 5, none⟩ = some (.slice A0_5 l0_5.length c0_5) := (qAb BK191.out 5).trans rfl
    have hfz15_0 := qAa BK191.out 0
    have hfz15_1 := qAa BK191.out 1
    have hfz15_2 := qAa BK191.out 2
    have hfz15_3 := qAa BK191.out 3
    have hfz15_4 := qAa BK191.out 4
    have hfz15_5 := qAa BK191.out 5
    go_wp2
    go_meet
    case rel => exact ⟨_, (true), (by first | rfl | (simp; done) | (simp [*]; done) | exact congrArg Value.bool (nil_ne _) | exact congrArg Value.bool (nil_eq _) | exact congrArg Value.bool (nil_ne' _)), H', ⟨by first | omega | exact Nat.le_refl _⟩, ⟨by (with_reducible repeat (first | refine qAg ?_ _ | refine qAi ?_ | refine blk_alloc ?_ _)); exact BK191.out⟩, ⟨by repeat (first | (with_reducible first | exact HB.out | apply qAd | apply qAc | apply qAe | refine qAf ?_ GE191.out) | exact HB.out)⟩⟩
   ·replace c14 := Bool.eq_false_iff.mpr c14
    subst c14
    have H1 : (if a0_0 = 2 then (if a0_0 = 3 then (hogsheadref15_plain.j0 k false a0_0 false a0_2 a0_3 l0_4 l0_5) else (hogsheadref15_plain.j0 k (a0_3.toList != ([] : List UInt8)) a0_0 false a0_2 a0_3 l0_4 l0_5)) else (if a0_2 = 0 then (if a0_0 = 3 then (hogsheadref15_plain.j0 k false a0_0 false a0_2 a0_3 l0_4 l0_5) else (hogsheadref15_plain.j0 k (a0_3.toList != ([] : List UInt8)) a0_0 false a0_2 a0_3 l0_4 l0_5)) else (hogsheadref15_plain.j0 k true a0_0 false a0_2 a0_3 l0_4 l0_5))) = some r := by rw [if_neg (show ¬ (false = true) by decide)] at H; exact H
    clear H
    have H := H1
    clear H1
    by_cases c16 : a0_0 = 2
    ·rw [if_pos c16] at H
     have c16b0 : (a0_0 == 2) = true := beq_iff_eq.mpr c16
     have c16b1 : (a0_0 != 2) = false := bne_eq_false_iff_eq.mpr c16
     clear c16
     by_cases c17 : a0_0 = 3
     ·rw [if_pos c17] at H
      have c17b0 : (a0_0 == 3) = true := beq_iff_eq.mpr c17
      have c17b1 : (a0_0 != 3) = false := bne_eq_false_iff_eq.mpr c17
      clear c17
      have H' := Aside0.mk H
      clear H
      have hcz18_0 : w3.cell? ⟨gb191, 0, none⟩ = some (.int .i64 a0_0) := (qAb BK191.out 0).trans rfl
      have hcz18_1 : w3.cell? ⟨gb191, 1, none⟩ = some (.bool false) := (qAb BK191.out 1).trans rfl
      have hcz18_2 : w3.cell? ⟨gb191, 2, none⟩ = some (.int .i64 a0_2) := (qAb BK191.out 2).trans rfl
      have hcz18_3 : w3.cell? ⟨gb191, 3, none⟩ = some (.string a0_3) := (qAb BK191.out 3).trans rfl
      have hcz18_4 : w3.cell? ⟨gb191, 4, none⟩ = some (.slice A0_4 l0_4.length c0_4) := (qAb BK191.out 4).trans rfl
      have hcz18_5 : w3.cell? ⟨gb191, 5, none⟩ = some (.slice A0_5 l0_5.length c0_5) := (qAb BK191.out 5).trans rfl
      have hfz18_0 := qAa BK191.out 0
      have hfz18_1 := qAa BK191.out 1
      have hfz18_2 := qAa BK191.out 2
      have hfz18_3 := qAa BK191.out 3
      have hfz18_4 := qAa BK191.out 4
      have hfz18_5 := qAa BK191.out 5
      go_wp2
      go_meet
      case rel => exact ⟨_, (false), (by first | rfl | (simp; done) | (simp [*]; done) | exact congrArg Value.bool (nil_ne _) | exact congrArg Value.bool (nil_eq _) | exact congrArg Value.bool (nil_ne' _)), H', ⟨by first | omega | exact Nat.le_refl _⟩, ⟨by (with_reducible repeat (first | refine qAg ?_ _ | refine qAi ?_ | refine blk_alloc ?_ _)); exact BK191.out⟩, ⟨by repeat (first | (with_reducible first | exact HB.out | apply qAd | apply qAc | apply qAe | refine qAf ?_ GE191.out) | exact HB.out)⟩⟩
     ·rw [if_neg c17] at H
      have c17b0 : (a0_0 == 3) = false := beq_eq_false_iff_ne.mpr c17
      have c17b1 : (a0_0 != 3) = true := bne_iff_ne.mpr c17
      have H' := Aside0.mk H
      clear H
      have hcz19_0 : w3.cell? ⟨gb191, 0, none⟩ = some (.int .i64 a0_0) := (qAb BK191.out 0).trans rfl
      have hcz19_1 : w3.cell? ⟨gb191, 1, none⟩ = some (.bool false) := (qAb BK191.out 1).trans rfl
      have hcz19_2 : w3.cell? ⟨gb191, 2, none⟩ = some (.int .i64 a0_2) := (qAb BK191.out 2).trans rfl
      have hcz19_3 : w3.cell? ⟨gb191, 3, none⟩ = some (.string a0_3) := (qAb BK191.out 3).trans rfl
      have hcz19_4 : w3.cell? ⟨gb191, 4, none⟩ = some (.slice A0_4 l0_4.length c0_4) := (qAb BK191.out 4).trans rfl
      have hcz19_5 : w3.cell? ⟨gb191, 5, none⟩ = some (.slice A0_5 l0_5.length c0_5) := (qAb BK191.out 5).trans rfl
      have hfz19_0 := qAa BK191.out 0
      have hfz19_1 := qAa BK191.out 1
      have hfz19_2 := qAa BK191.out 2
      have hfz19_3 := qAa BK191.out 3
      have hfz19_4 := qAa BK191.out 4
      have hfz19_5 := qAa BK191.out 5
      go_wp2
      go_meet
      case rel => exact ⟨_, ((a0_3.toList != ([] : List UInt8))), (by first | rfl | (simp; done) | (simp [*]; done) | exact congrArg Value.bool (nil_ne _) | exact congrArg Value.bool (nil_eq _) | exact congrArg Value.bool (nil_ne' _)), H', ⟨by first | omega | exact Nat.le_refl _⟩, ⟨by (with_reducible repeat (first | refine qAg ?_ _ | refine qAi ?_ | refine blk_alloc ?_ _)); exact BK191.out⟩, ⟨by repeat (first | (with_reducible first | exact HB.out | apply qAd | apply qAc | apply qAe | refine qAf ?_ GE191.out) | exact HB.out)⟩⟩
    ·rw [if_neg c16] at H
     have c16b0 : (a0_0 == 2) = false := beq_eq_false_iff_ne.mpr c16
     have c16b1 : (a0_0 != 2) = true := bne_iff_ne.mpr c16
     by_cases c20 : a0_2 = 0
     ·rw [if_pos c20] at H
      have c20b0 : (a0_2 == 0) = true := beq_iff_eq.mpr c20
      have c20b1 : (a0_2 != 0) = false := bne_eq_false_iff_eq.mpr c20
      clear c20
      by_cases c21 : a0_0 = 3
      ·rw [if_pos c21] at H
       have c21b0 : (a0_0 == 3) = true := beq_iff_eq.mpr c21
       have c21b1 : (a0_0 != 3) = false := bne_eq_false_iff_eq.mpr c21
       clear c21
       have H' := Aside0.mk H
       clear H
       have hcz22_0 : w3.cell? ⟨gb191, 0, none⟩ = some (.int .i64 a0_0) := (qAb BK191.out 0).trans rfl
       have hcz22_1 : w3.cell? ⟨gb191, 1, none⟩ = some (.bool false) := (qAb BK191.out 1).trans rfl
       have hcz22_2 : w3.cell? ⟨gb191, 2, none⟩ = some (.int .i64 a0_2) := (qAb BK191.out 2).trans rfl
       have hcz22_3 : w3.cell? ⟨gb191, 3, none⟩ = some (.string a0_3) := (qAb BK191.out 3).trans rfl
       have hcz22_4 : w3.cell? ⟨gb191, 4, none⟩ = some (.slice A0_4 l0_4.length c0_4) := (qAb BK191.out 4).trans rfl
       have hcz22_5 : w3.cell? ⟨gb191, 5, none⟩ = some (.slice A0_5 l0_5.length c0_5) := (qAb BK191.out 5).trans rfl
       have hfz22_0 := qAa BK191.out 0
       have hfz22_1 := qAa BK191.out 1
       have hfz22_2 := qAa BK191.out 2
       have hfz22_3 := qAa BK191.out 3
       have hfz22_4 := qAa BK191.out 4
       have hfz22_5 := qAa BK191.out 5
       go_wp2
       go_meet
       case rel => exact ⟨_, (false), (by first | rfl | (simp; done) | (simp [*]; done) | exact congrArg Value.bool (nil_ne _) | exact congrArg Value.bool (nil_eq _) | exact congrArg Value.bool (nil_ne' _)), H', ⟨by first | omega | exact Nat.le_refl _⟩, ⟨by (with_reducible repeat (first | refine qAg ?_ _ | refine qAi ?_ | refine blk_alloc ?_ _)); exact BK191.out⟩, ⟨by repeat (first | (with_reducible first | exact HB.out | apply qAd | apply qAc | apply qAe | refine qAf ?_ GE191.out) | exact HB.out)⟩⟩
      ·rw [if_neg c21] at H
       have c21b0 : (a0_0 == 3) = false := beq_eq_false_iff_ne.mpr c21
       have c21b1 : (a0_0 != 3) = true := bne_iff_ne.mpr c21
       have H' := Aside0.mk H
       clear H
       have hcz23_0 : w3.cell? ⟨gb191, 0, none⟩ = some (.int .i64 a0_0) := (qAb BK191.out 0).trans rfl
       have hcz23_1 : w3.cell? ⟨gb191, 1, none⟩ = some (.bool false) := (qAb BK191.out 1).trans rfl
       have hcz23_2 : w3.cell? ⟨gb191, 2, none⟩ = some (.int .i64 a0_2) := (qAb BK191.out 2).trans rfl
       have hcz23_3 : w3.cell? ⟨gb191, 3, none⟩ = some (.string a0_3) := (qAb BK191.out 3).trans rfl
       have hcz23_4 : w3.cell? ⟨gb191, 4, none⟩ = some (.slice A0_4 l0_4.length c0_4) := (qAb BK191.out 4).trans rfl
       have hcz23_5 : w3.cell? ⟨gb191, 5, none⟩ = some (.slice A0_5 l0_5.length c0_5) := (qAb BK191.out 5).trans rfl
       have hfz23_0 := qAa BK191.out 0
       have hfz23_1 := qAa BK191.out 1
       have hfz23_2 := qAa BK191.out 2
       have hfz23_3 := qAa BK191.out 3
       have hfz23_4 := qAa BK191.out 4
       have hfz23_5 := qAa BK191.out 5
       go_wp2
       go_meet
       case rel => exact ⟨_, ((a0_3.toList != ([] : List UInt8))), (by first | rfl | (simp; done) | (simp [*]; done) | exact congrArg Value.bool (nil_ne _) | exact congrArg Value.bool (nil_eq _) | exact congrArg Value.bool (nil_ne' _)), H', ⟨by first | omega | exact Nat.le_refl _⟩, ⟨by (with_reducible repeat (first | refine qAg ?_ _ | refine qAi ?_ | refine blk_alloc ?_ _)); exact BK191.out⟩, ⟨by repeat (first | (with_reducible first | exact HB.out | apply qAd | apply qAc | apply qAe | refine qAf ?_ GE191.out) | exact HB.out)⟩⟩
     ·rw [if_neg c20] at H
      have c20b0 : (a0_2 == 0) = false := beq_eq_false_iff_ne.mpr c20
      have c20b1 : (a0_2 != 0) = true := bne_iff_ne.mpr c20
      have H' := Aside0.mk H
      clear H
      have hcz24_0 : w3.cell? ⟨gb191, 0, none⟩ = some (.int .i64 a0_0) := (qAb BK191.out 0).trans rfl
      have hcz24_1 : w3.cell? ⟨gb191, 1, none⟩ = some (.bool false) := (qAb BK191.out 1).trans rfl
      have hcz24_2 : w3.cell? ⟨gb191, 2, none⟩ = some (.int .i64 a0_2) := (qAb BK191.out 2).trans rfl
      have hcz24_3 : w3.cell? ⟨gb191, 3, none⟩ = some (.string a0_3) := (qAb BK191.out 3).trans rfl
      have hcz24_4 : w3.cell? ⟨gb191, 4, none⟩ = some (.slice A0_4 l0_4.length c0_4) := (qAb BK191.out 4).trans rfl
      have hcz24_5 : w3.cell? ⟨gb191, 5, none⟩ = some (.slice A0_5 l0_5.length c0_5) := (qAb BK191.out 5).trans rfl
      have hfz24_0 := qAa BK191.out 0
      have hfz24_1 := qAa BK191.out 1
      have hfz24_2 := qAa BK191.out 2
      have hfz24_3 := qAa BK191.out 3
      have hfz24_4 := qAa BK191.out 4
      have hfz24_5 := qAa BK191.out 5
      go_wp2
      go_meet
      case rel => exact ⟨_, (true), (by first | rfl | (simp; done) | (simp [*]; done) | exact congrArg Value.bool (nil_ne _) | exact congrArg Value.bool (nil_eq _) | exact congrArg Value.bool (nil_ne' _)), H', ⟨by first | omega | exact Nat.le_refl _⟩, ⟨by (with_reducible repeat (first | refine qAg ?_ _ | refine qAi ?_ | refine blk_alloc ?_ _)); exact BK191.out⟩, ⟨by repeat (first | (with_reducible first | exact HB.out | apply qAd | apply qAc | apply qAe | refine qAf ?_ GE191.out) | exact HB.out)⟩⟩
 case rest =>
  clear HC2
  try clear c1
  try clear c2
  try clear p2
  try clear c4
  try clear c4b0
  try clear c4b1
  try clear c5
  try clear c5b0
  try clear c5b1
  try clear c6
  try clear c6b0
  try clear c6b1
  try clear c7
  try clear c9
  try clear c9b0
  try clear c9b1
  try clear c10
  try clear c10b0
  try clear c10b1
  try clear c14
  try clear c16
  try clear c16b0
  try clear c16b1
  try clear c17
  try clear c17b0
  try clear c17b1
  try clear c20
  try clear c20b0
  try clear c20b1
  try clear c21
  try clear c21b0
  try clear c21b1
  try clear hcz11_0
  try clear hcz11_1
  try clear hcz11_2
  try clear hcz11_3
  try clear hcz11_4
  try clear hcz11_5
  try clear hcz12_0
  try clear hcz12_1
  try clear hcz12_2
  try clear hcz12_3
  try clear hcz12_4
  try clear hcz12_5
  try clear hcz13_0
  try clear hcz13_1
  try clear hcz13_2
  try clear hcz13_3
  try clear hcz13_4
  try clear hcz13_5
  try clear hcz15_0
  try clear hcz15_1
  try clear hcz15_2
  try clear hcz15_3
  try clear hcz15_4
  try clear hcz15_5
  try clear hcz18_0
  try clear hcz18_1
  try clear hcz18_2
  try clear hcz18_3
  try clear hcz18_4
  try clear hcz18_5
  try clear hcz19_0
  try clear hcz19_1
  try clear hcz19_2
  try clear hcz19_3
  try clear hcz19_4
  try clear hcz19_5
  try clear hcz22_0
  try clear hcz22_1
  try clear hcz22_2
  try clear hcz22_3
  try clear hcz22_4
  try clear hcz22_5
  try clear hcz23_0
  try clear hcz23_1
  try clear hcz23_2
  try clear hcz23_3
  try clear hcz23_4
  try clear hcz23_5
  try clear hcz24_0
  try clear hcz24_1
  try clear hcz24_2
  try clear hcz24_3
  try clear hcz24_4
  try clear hcz24_5
  try clear hcz7_0
  try clear hcz7_1
  try clear hcz7_2
  try clear hcz7_3
  try clear hcz7_4
  try clear hcz7_5
  try clear hcz8_0
  try clear hcz8_1
  try clear hcz8_2
  try clear hcz8_3
  try clear hcz8_4
  try clear hcz8_5
  try clear hfz11_0
  try clear hfz11_1
  try clear hfz11_2
  try clear hfz11_3
  try clear hfz11_4
  try clear hfz11_5
  try clear hfz12_0
  try clear hfz12_1
  try clear hfz12_2
  try clear hfz12_3
  try clear hfz12_4
  try clear hfz12_5
  try clear hfz13_0
  try clear hfz13_1
  try clear hfz13_2
  try clear hfz13_3
  try clear hfz13_4
  try clear hfz13_5
  try clear hfz15_0
  try clear hfz15_1
  try clear hfz15_2
  try clear hfz15_3
  try clear hfz15_4
  try clear hfz15_5
  try clear hfz18_0
  try clear hfz18_1
  try clear hfz18_2
  try clear hfz18_3
  try clear hfz18_4
  try clear hfz18_5
  try clear hfz19_0
  try clear hfz19_1
  try clear hfz19_2
  try clear hfz19_3
  try clear hfz19_4
  try clear hfz19_5
  try clear hfz22_0
  try clear hfz22_1
  try clear hfz22_2
  try clear hfz22_3
  try clear hfz22_4
  try clear hfz22_5
  try clear hfz23_0
  try clear hfz23_1
  try clear hfz23_2
  try clear hfz23_3
  try clear hfz23_4
  try clear hfz23_5
  try clear hfz24_0
  try clear hfz24_1
  try clear hfz24_2
  try clear hfz24_3
  try clear hfz24_4
  try clear hfz24_5
  try clear hfz7_0
  try clear hfz7_1
  try clear hfz7_2
  try clear hfz7_3
  try clear hfz7_4
  try clear hfz7_5
  try clear hfz8_0
  try clear hfz8_1
  try clear hfz8_2
  try clear hfz8_3
  try clear hfz8_4
  try clear hfz8_5
  obtain ⟨kq, x29_1, rfl, HA, HJ1, BK191, HB⟩ := hcut
  cases kq with
  | zero => exact absurd HA.out (by simp [hogsheadref15_plain.j0])
  | succ kj1 =>
   have H := HA.out
   clear HA
   simp only [hogsheadref15_plain.j0] at H
   by_cases c25 : x29_1 = true
   ·subst c25
    have H1 : (some false) = some r := by rw [if_pos rfl] at H; exact H
    clear H
    have H := H1
    clear H1
    obtain rfl := Option.some.inj H
    go_wp2
    go_ret
    exact ⟨by first | rfl | (simp [qAl, qAk] <;> rfl) | (simp [*, qAl, qAk] <;> rfl), by repeat (first | (with_reducible first | exact HB.out | apply qAd | apply qAc | apply qAe | refine qAf ?_ GE191.out) | exact HB.out)⟩
   ·replace c25 := Bool.eq_false_iff.mpr c25
    subst c25
    have H1 : (if a0_0 = 4 then (if a0_0 = 5 then (some true) else (some ((l0_5.length : Int) == 0))) else (if a0_0 = 5 then (some true) else (if (l0_4.length : Int) > 0 then (some false) else (some ((l0_5.length : Int) == 0))))) = some r := by rw [if_neg (show ¬ (false = true) by decide)] at H; exact H
    clear H
    have H := H1
    clear H1
    by_cases c26 : a0_0 = 4
    ·rw [if_pos c26] at H
     have c26b0 : (a0_0 == 4) = true := beq_iff_eq.mpr c26
     have c26b1 : (a0_0 != 4) = false := bne_eq_false_iff_eq.mpr c26
     clear c26
     by_cases c27 : a0_0 = 5
     ·rw [if_pos c27] at H
      have c27b0 : (a0_0 == 5) = true := beq_iff_eq.mpr c27
      have c27b1 : (a0_0 != 5) = false := bne_eq_false_iff_eq.mpr c27
      clear c27
      obtain rfl := Option.some.inj H
      have hcz28_0 : wc.cell? ⟨gb191, 0, none⟩ = some (.int .i64 a0_0) := (qAb BK191.out 0).trans rfl
      have hcz28_1 : wc.cell? ⟨gb191, 1, none⟩ = some (.bool a0_1) := (qAb BK191.out 1).trans rfl
      have hcz28_2 : wc.cell? ⟨gb191, 2, none⟩ = some (.int .i64 a0_2) := (qAb BK191.out 2).trans rfl
      have hcz28_3 : wc.cell? ⟨gb191, 3, none⟩ = some (.string a0_3) := (qAb BK191.out 3).trans rfl
      have hcz28_4 : wc.cell? ⟨gb191, 4, none⟩ = some (.slice A0_4 l0_4.length c0_4) := (qAb BK191.out 4).trans rfl
      have hcz28_5 : wc.cell? ⟨gb191, 5, none⟩ = some (.slice A0_5 l0_5.length c0_5) := (qAb BK191.out 5).trans rfl
      have hfz28_0 := qAa BK191.out 0
      have hfz28_1 := qAa BK191.out 1
      have hfz28_2 := qAa BK191.out 2
      have hfz28_3 := qAa BK191.out 3
      have hfz28_4 := qAa BK191.out 4
      have hfz28_5 := qAa BK191.out 5
      go_wp2
      go_ret
      exact ⟨by first | rfl | (simp [qAl, qAk] <;> rfl) | (simp [*, qAl, qAk] <;> rfl), by repeat (first | (with_reducible first | exact HB.out | apply qAd | apply qAc | apply qAe | refine qAf ?_ GE191.out) | exact HB.out)⟩
     ·rw [if_neg c27] at H
      have c27b0 : (a0_0 == 5) = false := beq_eq_false_iff_ne.mpr c27
      have c27b1 : (a0_0 != 5) = true := bne_iff_ne.mpr c27
      obtain rfl := Option.some.inj H
      have hcz29_0 : wc.cell? ⟨gb191, 0, none⟩ = some (.int .i64 a0_0) := (qAb BK191.out 0).trans rfl
      have hcz29_1 : wc.cell? ⟨gb191, 1, none⟩ = some (.bool a0_1) := (qAb BK191.out 1).trans rfl
      have hcz29_2 : wc.cell? ⟨gb191, 2, none⟩ = some (.int .i64 a0_2) := (qAb BK191.out 2).trans rfl
      have hcz29_3 : wc.cell? ⟨gb191, 3, none⟩ = some (.string a0_3) := (qAb BK191.out 3).trans rfl
      have hcz29_4 : wc.cell? ⟨gb191, 4, none⟩ = some (.slice A0_4 l0_4.length c0_4) := (qAb BK191.out 4).trans rfl
      have hcz29_5 : wc.cell? ⟨gb191, 5, none⟩ = some (.slice A0_5 l0_5.length c0_5) := (qAb BK191.out 5).trans rfl
      have hfz29_0 := qAa BK191.out 0
      have hfz29_1 := qAa BK191.out 1
      have hfz29_2 := qAa BK191.out 2
      have hfz29_3 := qAa BK191.out 3
      have hfz29_4 := qAa BK191.out 4
      have hfz29_5 := qAa BK191.out 5
      go_wp2
      go_ret
      exact ⟨by first | rfl | (simp [qAl, qAk] <;> rfl) | (simp [*, qAl, qAk] <;> rfl), by repeat (first | (with_reducible first | exact HB.out | apply qAd | apply qAc | apply qAe | refine qAf ?_ GE191.out) | exact HB.out)⟩
    ·rw [if_neg c26] at H
     have c26b0 : (a0_0 == 4) = false := beq_eq_false_iff_ne.mpr c26
     have c26b1 : (a0_0 != 4) = true := bne_iff_ne.mpr c26
     by_cases c30 : a0_0 = 5
     ·rw [if_pos c30] at H
      have c30b0 : (a0_0 == 5) = true := beq_iff_eq.mpr c30
      have c30b1 : (a0_0 != 5) = false := bne_eq_false_iff_eq.mpr c30
      clear c30
      obtain rfl := Option.some.inj H
      have hcz31_0 : wc.cell? ⟨gb191, 0, none⟩ = some (.int .i64 a0_0) := (qAb BK191.out 0).trans rfl
      have hcz31_1 : wc.cell? ⟨gb191, 1, none⟩ = some (.bool a0_1) := (qAb BK191.out 1).trans rfl
      have hcz31_2 : wc.cell? ⟨gb191, 2, none⟩ = some (.int .i64 a0_2) := (qAb BK191.out 2).trans rfl
      have hcz31_3 : wc.cell? ⟨gb191, 3, none⟩ = some (.string a0_3) := (qAb BK191.out 3).trans rfl
      have hcz31_4 : wc.cell? ⟨gb191, 4, none⟩ = some (.slice A0_4 l0_4.length c0_4) := (qAb BK191.out 4).trans rfl
      have hcz31_5 : wc.cell? ⟨gb191, 5, none⟩ = some (.slice A0_5 l0_5.length c0_5) := (qAb BK191.out 5).trans rfl
      have hfz31_0 := qAa BK191.out 0
      have hfz31_1 := qAa BK191.out 1
      have hfz31_2 := qAa BK191.out 2
      have hfz31_3 := qAa BK191.out 3
      have hfz31_4 := qAa BK191.out 4
      have hfz31_5 := qAa BK191.out 5
      go_wp2
      go_ret
      exact ⟨by first | rfl | (simp [qAl, qAk] <;> rfl) | (simp [*, qAl, qAk] <;> rfl), by repeat (first | (with_reducible first | exact HB.out | apply qAd | apply qAc | apply qAe | refine qAf ?_ GE191.out) | exact HB.out)⟩
     ·rw [if_neg c30] at H
      have c30b0 : (a0_0 == 5) = false := beq_eq_false_iff_ne.mpr c30
      have c30b1 : (a0_0 != 5) = true := bne_iff_ne.mpr c30
      by_cases c32 : (l0_4.length : Int) > 0
      ·rw [if_pos c32] at H
       have c32b0 : decide (0 < (l0_4.length : Int)) = true := decide_eq_true c32
       have c32b1 : decide (0 < l0_4.length) = true := decide_eq_true (by omega)
       clear c32
       obtain rfl := Option.some.inj H
       have hcz33_0 : wc.cell? ⟨gb191, 0, none⟩ = some (.int .i64 a0_0) := (qAb BK191.out 0).trans rfl
       have hcz33_1 : wc.cell? ⟨gb191, 1, none⟩ = some (.bool a0_1) := (qAb BK191.out 1).trans rfl
       have hcz33_2 : wc.cell? ⟨gb191, 2, none⟩ = some (.int .i64 a0_2) := (qAb BK191.out 2).trans rfl
       have hcz33_3 : wc.cell? ⟨gb191, 3, none⟩ = some (.string a0_3) := (qAb BK191.out 3).trans rfl
       have hcz33_4 : wc.cell? ⟨gb191, 4, none⟩ = some (.slice A0_4 l0_4.length c0_4) := (qAb BK191.out 4).trans rfl
       have hcz33_5 : wc.cell? ⟨gb191, 5, none⟩ = some (.slice A0_5 l0_5.length c0_5) := (qAb BK191.out 5).trans rfl
       have hfz33_0 := qAa BK191.out 0
       have hfz33_1 := qAa BK191.out 1
       have hfz33_2 := qAa BK191.out 2
       have hfz33_3 := qAa BK191.out 3
       have hfz33_4 := qAa BK191.out 4
       have hfz33_5 := qAa BK191.out 5
       go_wp2
       go_ret
       exact ⟨by first | rfl | (simp [qAl, qAk] <;> rfl) | (simp [*, qAl, qAk] <;> rfl), by repeat (first | (with_reducible first | exact HB.out | apply qAd | apply qAc | apply qAe | refine qAf ?_ GE191.out) | exact HB.out)⟩
      ·rw [if_neg c32] at H
       have c32b0 : decide (0 < (l0_4.length : Int)) = false := decide_eq_false c32
       have c32b1 : decide (0 < l0_4.length) = false := decide_eq_false (by omega)
       clear c32
       obtain rfl := Option.some.inj H
       have hcz34_0 : wc.cell? ⟨gb191, 0, none⟩ = some (.int .i64 a0_0) := (qAb BK191.out 0).trans rfl
       have hcz34_1 : wc.cell? ⟨gb191, 1, none⟩ = some (.bool a0_1) := (qAb BK191.out 1).trans rfl
       have hcz34_2 : wc.cell? ⟨gb191, 2, none⟩ = some (.int .i64 a0_2) := (qAb BK191.out 2).trans rfl
       have hcz34_3 : wc.cell? ⟨gb191, 3, none⟩ = some (.string a0_3) := (qAb BK191.out 3).trans rfl
       have hcz34_4 : wc.cell? ⟨gb191, 4, none⟩ = some (.slice A0_4 l0_4.length c0_4) := (qAb BK191.out 4).trans rfl
       have hcz34_5 : wc.cell? ⟨gb191, 5, none⟩ = some (.slice A0_5 l0_5.length c0_5) := (qAb BK191.out 5).trans rfl
       have hfz34_0 := qAa BK191.out 0
       have hfz34_1 := qAa BK191.out 1
       have hfz34_2 := qAa BK191.out 2
       have hfz34_3 := qAa BK191.out 3
       have hfz34_4 := qAa BK191.out 4
       have hfz34_5 := qAa BK191.out 5
       go_wp2
       go_ret
       exact ⟨by first | rfl | (simp [qAl, qAk] <;> rfl) | (simp [*, qAl, qAk] <;> rfl), by repeat (first | (with_reducible first | exact HB.out | apply qAd | apply qAc | apply qAe | refine qAf ?_ GE191.out) | exact HB.out)⟩
end Go.Proofs.YtbnoihpooeombaaDoor.P

namespace Go.Proofs.YtbnoihpooeombaaDoor.P
open Go.Proofs.YtbnoihpooeombaaDoor.X
open Go.RowKit Go.Proofs.YtbnoihpooeombaaDoorW.PrintWords Go.Proofs.YtbnoihpooeombaaDoorW.PrintLast Go.Proofs.YtbnoihpooeombaaDoorW.PrintMore
attribute [local go_sem] qAr qAx
set_option linter.unusedVariables false
set_option linter.unusedSimpArgs false
mutual
def hogsheadref15_may.j0 : Nat → Int → Bool → Int → Bool → Int → ByteArray → List (S25) → List ByteArray → Option (Bool)
 | 0, _, _, _, _, _, _, _, _ => none
 | k + 1, x1, x33, x193000, x193001, x193002, x193003, x193004, x193005 => if x33 = true then (some false) else (if x193000 = 5 then (hogsheadref15_may.j1 k x1 ((x193005.length : Int) != (x193004.length : Int)) x193000 x193001 x193002 x193003 x193004 x193005) else (hogsheadref15_may.j1 k x1 false x193000 x193001 x193002 x193003 x193004 x193005))
def hogsheadref15_may.j1 : Nat → Int → Bool → Int → Bool → Int → ByteArray → List (S25) → List ByteArray → Option (Bool)
 | 0, _, _, _, _, _, _, _, _ => none
 | k + 1, x1, x45, x193000, x193001, x193002, x193003, x193004, x193005 => if x45 = true then (some false) else (hogsheadref15_may.l0 k x1 1 x193000 x193001 x193002 x193003 x193004 x193005)
def hogsheadref15_may.l0 : Nat → Int → Int → Int → Bool → Int → ByteArray → List (S25) → List ByteArray → Option (Bool)
 | 0, _, _, _, _, _, _, _, _ => none
 | k + 1, x1, x5, x193000, x193001, x193002, x193003, x193004, x193005 => if x5 < (x193005.length : Int) then (if 0 ≤ (wrap64 (x5 - 1)) then (if (wrap64 (x5 - 1)) < (x193005.length : Int) then (if 0 ≤ x5 then (if ((Op.bytesLess ((rdOf ByteArray.empty x193005 (wrap64 (x5 - 1))).toList) ((rdOf ByteArray.empty x193005 x5).toList)) = true) then (hogsheadref15_may.l0 k x1 (wrap64 (x5 + 1)) x193000 x193001 x193002 x193003 x193004 x193005) else (some false)) else (none)) else (none)) else (none)) else (hogsheadref15_may.l1 k x1 0 x193000 x193001 x193002 x193003 x193004 x193005)
def hogsheadref15_may.l1 : Nat → Int → Int → Int → Bool → Int → ByteArray → List (S25) → List ByteArray → Option (Bool)
 | 0, _, _, _, _, _, _, _, _ => none
 | k + 1, x1, x6, x193000, x193001, x193002, x193003, x193004, x193005 => if x6 < (x193004.length : Int) then (if 0 ≤ x6 then ((hogsheadref15_may.f k ((rd_T25 x193004 x6).f0) ((rd_T25 x193004 x6).f1) ((rd_T25 x193004 x6).f2) ((rd_T25 x193004 x6).f3) ((rd_T25 x193004 x6).f4) ((rd_T25 x193004 x6).f5) (wrap64 (x1 - 1))).bind fun t197 => (if t197 = true then (hogsheadref15_may.l1 k x1 (wrap64 (x6 + 1)) x193000 x193001 x193002 x193003 x193004 x193005) else (some false))) else (none)) else (some true)
def hogsheadref15_may.f : Nat → Int → Bool → Int → ByteArray → List (S25) → List ByteArray → Int → Option (Bool)
 | 0, _, _, _, _, _, _, _ => none
 | k + 1, a0_0, a0_1, a0_2, a0_3, l0_4, l0_5, a1 => if a1 < 1 then (hogsheadref15_may.j0 k a1 true a0_0 a0_1 a0_2 a0_3 l0_4 l0_5) else ((hogsheadref15_plain.f k a0_0 a0_1 a0_2 a0_3 l0_4 l0_5).bind fun t193 => (if t193 = true then (if a0_0 < 0 then (hogsheadref15_may.j0 k a1 true a0_0 a0_1 a0_2 a0_3 l0_4 l0_5) else (if a0_0 > 5 then (hogsheadref15_may.j0 k a1 true a0_0 a0_1 a0_2 a0_3 l0_4 l0_5) else (if a0_2 < (-9007199254740992) then (hogsheadref15_may.j0 k a1 true a0_0 a0_1 a0_2 a0_3 l0_4 l0_5) else (hogsheadref15_may.j0 k a1 (decide (a0_2 > 9007199254740992)) a0_0 a0_1 a0_2 a0_3 l0_4 l0_5)))) else (hogsheadref15_may.j0 k a1 true a0_0 a0_1 a0_2 a0_3 l0_4 l0_5)))
end
set_option maxHeartbeats 8000000 in
set_option maxRecDepth 100000 in
theorem hogsheadref15_may.calls (k : Nat) : ∀ (a0_0 : Int) (a0_1 : Bool) (a0_2 : Int) (a0_3 : ByteArray) (A0_4 : Option Addr) (c0_4 : Nat) (l0_4 : List (S25)) (A0_5 : Option Addr) (c0_5 : Nat) (l0_5 : List ByteArray) (a1 : Int) (r : Bool) (w : World) (hr0_4 : Kd.C k25 w A0_4 l0_4.length l0_4) (hc0_4 : l0_4.length ≤ c0_4) (hr0_5 : Kd.C Kd.string w A0_5 l0_5.length l0_5) (hc0_5 : l0_5.length ≤ c0_5) (h : hogsheadref15_may.f k a0_0 a0_1 a0_2 a0_3 l0_4 l0_5 a1 = some r),
  Calls Tryd.prog 53 #[.agg #[.int .i64 a0_0, .bool a0_1, .int .i64 a0_2, .string a0_3, .slice A0_4 l0_4.length c0_4, .slice A0_5 l0_5.length c0_5], .int .i64 a1] w fun e w' => e = .returned (.bool r) ∧ Below w.heap.size w w' := by
 induction k using Nat.strongRecOn with
 | _ k ih =>
 intro a0_0 a0_1 a0_2 a0_3 A0_4 c0_4 l0_4 A0_5 c0_5 l0_5 a1 r w hr0_4 hc0_4 hr0_5 hc0_5 h
 cases k with
 | zero => exact absurd h (by simp [hogsheadref15_may.f])
 | succ k =>
 simp only [hogsheadref15_may.f] at h
 have hu25 := Tryd.underlying25
 have HR0_4 := Aside0.mk hr0_4
 have HC0_4 := Aside0.mk hc0_4
 clear hr0_4 hc0_4
 have HR0_5 := Aside0.mk hr0_5
 have HC0_5 := Aside0.mk hc0_5
 clear hr0_5 hc0_5
 have HB := Aside0.mk (Below.refl w.heap.size w)
 have H : (if a1 < 1 then (hogsheadref15_may.j0 k a1 true a0_0 a0_1 a0_2 a0_3 l0_4 l0_5) else ((hogsheadref15_plain.f k a0_0 a0_1 a0_2 a0_3 l0_4 l0_5).bind fun t193 => (if t193 = true then (if a0_0 < 0 then (hogsheadref15_may.j0 k a1 true a0_0 a0_1 a0_2 a0_3 l0_4 l0_5) else (if a0_0 > 5 then (hogsheadref15_may.j0 k a1 true a0_0 a0_1 a0_2 a0_3 l0_4 l0_5) else (if a0_2 < (-9007199254740992) then (hogsheadref15_may.j0 k a1 true a0_0 a0_1 a0_2 a0_3 l0_4 l0_5) else (hogsheadref15_may.j0 k a1 (decide (a0_2 > 9007199254740992)) a0_0 a0_1 a0_2 a0_3 l0_4 l0_5)))) else (hogsheadref15_may.j0 k a1 true a0_0 a0_1 a0_2 a0_3 l0_4 l0_5)))) = some r := h
 clear h
 have HC3 := Aside0.mk H
 clear H
 go_enter Tryd.func53, Tryd.ntmps53
 go_upto_region 1 with (first | ((with_reducible refine qAy (N := 2) rfl ?_); (try (refine qBn (by rfl) ?_; dsimp only)); refine qAv ?hg (N := 2) ?hd (cs := #[.int .i64 a0_0, .bool a0_1, .int .i64 a0_2, .string a0_3, .slice A0_4 l0_4.length c0_4, .slice A0_5 l0_5.length c0_5]) (t := 25) ?hr ?_; (case hd => rfl); (case hg => rfl); (case hr => first | (go_simp; done) | (go_simp; rfl)); intro gb192 hg w4 hbox hb; have n0_ := Aside0.mk (qAj (by repeat (first | (with_reducible first | exact HB.out | apply qAd | apply qAc | apply qAe) | exact HB.out)) hb); have n1_ := Aside0.mk (hbox); have n2_ := Aside0.mk ((by rw [hg]; exact (qAn (by repeat (first | (with_reducible first | exact HB.out | apply qAd | apply qAc | apply qAe) | exact HB.out))) : w.heap.size ≤ gb192)); have n3_ := Aside0.mk ((by rw [hg]; exact (qAn (by repeat (first | (with_reducible first | exact HB.out | apply qAd | apply qAc | apply qAe) | exact HB.out))) : w.heap.size ≤ gb192)); clear HB; have HB := n0_; have BK192 := n1_; have GW192 := n2_; have GE192 := n3_; clear n0_ n1_ n2_ n3_; clear hb hbox hg))
 repeat (go_quiet (first | ((with_reducible refine qAy (N := 2) rfl ?_); (try (refine qBn (by rfl) ?_; dsimp only)); refine qAv ?hg (N := 2) ?hd (cs := #[.int .i64 a0_0, .bool a0_1, .int .i64 a0_2, .string a0_3, .slice A0_4 l0_4.length c0_4, .slice A0_5 l0_5.length c0_5]) (t := 25) ?hr ?_; (case hd => rfl); (case hg => rfl); (case hr => first | (go_simp; done) | (go_simp; rfl)); intro gb192 hg w4 hbox hb; have n0_ := Aside0.mk (qAj (by repeat (first | (with_reducible first | exact HB.out | apply qAd | apply qAc | apply qAe) | exact HB.out)) hb); have n1_ := Aside0.mk (hbox); have n2_ := Aside0.mk ((by rw [hg]; exact (qAn (by repeat (first | (with_reducible first | exact HB.out | apply qAd | apply qAc | apply qAe) | exact HB.out))) : w.heap.size ≤ gb192)); have n3_ := Aside0.mk ((by rw [hg]; exact (qAn (by repeat (first | (with_reducible first | exact HB.out | apply qAd | apply qAc | apply qAe) | exact HB.out))) : w.heap.size ≤ gb192)); clear HB; have HB := n0_; have BK192 := n1_; have GW192 := n2_; have GE192 := n3_; clear n0_ n1_ n2_ n3_; clear hb hbox hg)); go_upto_region 1 with (first | ((with_reducible refine qAy (N := 2) rfl ?_); (try (refine qBn (by rfl) ?_; dsimp only)); refine qAv ?hg (N := 2) ?hd (cs := #[.int .i64 a0_0, .bool a0_1, .int .i64 a0_2, .string a0_3, .slice A0_4 l0_4.length c0_4, .slice A0_5 l0_5.length c0_5]) (t := 25) ?hr ?_; (case hd => rfl); (case hg => rfl); (case hr => first | (go_simp; done) | (go_simp; rfl)); intro gb192 hg w4 hbox hb; have n0_ := Aside0.mk (qAj (by repeat (first | (with_reducible first | exact HB.out | apply qAd | apply qAc | apply qAe) | exact HB.out)) hb); have n1_ := Aside0.mk (hbox); have n2_ := Aside0.mk ((by rw [hg]; exact (qAn (by repeat (first | (with_reducible first | exact HB.out | apply qAd | apply qAc | apply qAe) | exact HB.out))) : w.heap.size ≤ gb192)); have n3_ := Aside0.mk ((by rw [hg]; exact (qAn (by repeat (first | (with_reducible first | exact HB.out | apply qAd | apply qAc | apply qAe) | exact HB.out))) : w.heap.size ≤ gb192)); clear HB; have HB := n0_; have BK192 := n1_; have GW192 := n2_; have GE192 := n3_; clear n0_ n1_ n2_ n3_; clear hb hbox hg)))
 (try simp only [Act.put, List.setIfInBounds_toArray, List.set_cons_zero, List.set_cons_succ])
 go_cut [33] (fun v33 wc => ∃ (kq : Nat) (x33_2 : Bool), v33 = .bool x33_2 ∧ Aside0 (hogsheadref15_may.j0 kq a1 x33_2 a0_0 a0_1 a0_2 a0_3 l0_4 l0_5 = some r) ∧ Aside0 (kq ≤ k) ∧ Aside0 (wc.heap[gb192]? = some (.cells #[.int .i64 a0_0, .bool a0_1, .int .i64 a0_2, .string a0_3, (.slice A0_4 l0_4.length c0_4), (.slice A0_5 l0_5.length c0_5)] 25 (0, 0))) ∧ Aside0 (Below w.heap.size w wc))
 case first =>
  have H := HC3.out
  clear HC3
  by_cases c5 : a1 < 1
  ·rw [if_pos c5] at H
   have c5b0 : decide (a1 < 1) = true := decide_eq_true c5
   clear c5
   (first | rw [c5b0] | (simp only [i64_w, i32_w]; rw [c5b0]) | skip)
   have H' := Aside0.mk H
   clear H
   go_wp2
   repeat (go_quiet (fail); try go_wp2)
   go_meet
   case rel => exact ⟨_, (true), (by first | rfl | (simp; done) | (simp [*]; done) | exact congrArg Value.bool (nil_ne _) | exact congrArg Value.bool (nil_eq _) | exact congrArg Value.bool (nil_ne' _)), H', ⟨by first | omega | exact Nat.le_refl _⟩, ⟨by (with_reducible repeat (first | refine qAg ?_ _ | refine qAi ?_ | refine blk_alloc ?_ _)); exact BK192.out⟩, ⟨by repeat (first | (with_reducible first | exact HB.out | apply qAd | apply qAc | apply qAe | refine qAf ?_ GE192.out) | exact HB.out)⟩⟩
  ·rw [if_neg c5] at H
   have c5b0 : decide (a1 < 1) = false := decide_eq_false c5
   clear c5
   (first | rw [c5b0] | (simp only [i64_w, i32_w]; rw [c5b0]) | skip)
   replace H := Option.bind_eq_some_iff.mp H
   obtain ⟨t193, A60, H⟩ := H
   replace H : (if t193 = true then (if a0_0 < 0 then (hogsheadref15_may.j0 k a1 true a0_0 a0_1 a0_2 a0_3 l0_4 l0_5) else (if a0_0 > 5 then (hogsheadref15_may.j0 k a1 true a0_0 a0_1 a0_2 a0_3 l0_4 l0_5) else (if a0_2 < (-9007199254740992) then (hogsheadref15_may.j0 k a1 true a0_0 a0_1 a0_2 a0_3 l0_4 l0_5) else (hogsheadref15_may.j0 k a1 (decide (a0_2 > 9007199254740992)) a0_0 a0_1 a0_2 a0_3 l0_4 l0_5)))) else (hogsheadref15_may.j0 k a1 true a0_0 a0_1 a0_2 a0_3 l0_4 l0_5)) = some r := H
   have A6 := Aside0.mk A60
   clear A60
   by_cases c7 : t193 = true
   ·subst c7
    have H1 : (if a0_0 < 0 then (hogsheadref15_may.j0 k a1 true a0_0 a0_1 a0_2 a0_3 l0_4 l0_5) else (if a0_0 > 5 then (hogsheadref15_may.j0 k a1 true a0_0 a0_1 a0_2 a0_3 l0_4 l0_5) else (if a0_2 < (-9007199254740992) then (hogsheadref15_may.j0 k a1 true a0_0 a0_1 a0_2 a0_3 l0_4 l0_5) else (hogsheadref15_may.j0 k a1 (decide (a0_2 > 9007199254740992)) a0_0 a0_1 a0_2 a0_3 l0_4 l0_5)))) = some r := by rw [if_pos rfl] at H; exact H
    clear H
    have H := H1
    clear H1
    by_cases c8 : a0_0 < 0
    ·rw [if_pos c8] at H
     have c8b0 : decide (a0_0 < 0) = true := decide_eq_true c8
     clear c8
     have H' := Aside0.mk H
     clear H
     have hcz9_0 : w4.cell? ⟨gb192, 0, none⟩ = some (.int .i64 a0_0) := (qAb BK192.out 0).trans rfl
     have hcz9_1 : w4.cell? ⟨gb192, 1, none⟩ = some (.bool a0_1) := (qAb BK192.out 1).trans rfl
     have hcz9_2 : w4.cell? ⟨gb192, 2, none⟩ = some (.int .i64 a0_2) := (qAb BK192.out 2).trans rfl
     have hcz9_3 : w4.cell? ⟨gb192, 3, none⟩ = some (.string a0_3) := (qAb BK192.out 3).trans rfl
     have hcz9_4 : w4.cell? ⟨gb192, 4, none⟩ = some (.slice A0_4 l0_4.length c0_4) := (qAb BK192.out 4).trans rfl
     have hcz9_5 : w4.cell? ⟨gb192, 5, none⟩ = some (.slice A0_5 l0_5.length c0_5) := (qAb BK192.out 5).trans rfl
     have hfz9_0 := qAa BK192.out 0
     have hfz9_1 := qAa BK192.out 1
     have hfz9_2 := qAa BK192.out 2
     have hfz9_3 := qAa BK192.out 3
     have hfz9_4 := qAa BK192.out 4
     have hfz9_5 := qAa BK192.out 5
     go_wp2_with (first | (go_at_call 75; (with_reducible refine (hogsheadref15_plain.calls k a0_0 a0_1 a0_2 a0_3 _ _ l0_4 _ _ l0_5 true _ ?side1 ?side2 ?side3 ?side4 A6.out).mono ?_); (case side1 => repeat (first | exact (Kd.C_below HR0_4.out HB.out) | (with_reducible refine Kd.C_alloc ?_ _) | (with_reducible refine Kd.C_drewN ?_ _) | (with_reducible refine Kd.C_drew ?_))); (case side2 => exact HC0_4.out); (case side3 => repeat (first | exact (Kd.C_below HR0_5.out HB.out) | (with_reducible refine Kd.C_alloc ?_ _) | (with_reducible refine Kd.C_drewN ?_ _) | (with_reducible refine Kd.C_drew ?_))); (case side4 => exact HC0_5.out); rintro e w10 ⟨rfl, hb⟩; have n0_ := Aside0.mk (qAm (g := gb192) (o := .cells #[.int .i64 a0_0, .bool a0_1, .int .i64 a0_2, .string a0_3, .slice A0_4 l0_4.length c0_4, .slice A0_5 l0_5.length c0_5] 25 (0, 0)) (by (with_reducible repeat (first | refine qAg ?_ _ | refine qAi ?_ | refine blk_alloc ?_ _)); exact BK192.out) hb); have n1_ := Aside0.mk (qAj (by repeat (first | (with_reducible first | exact HB.out | apply qAd | apply qAc | apply qAe | refine qAf ?_ GE192.out) | exact HB.out)) hb); clear BK192; clear HB; have BK192 := n0_; have HB := n1_; clear n0_ n1_; (try clear hb); (try clear hb2); (try clear hk); (try clear hi); have hcz11_0 : w10.cell? ⟨gb192, 0, none⟩ = some (.int .i64 a0_0) := (qAb BK192.out 0).trans rfl; have hcz11_1 : w10.cell? ⟨gb192, 1, none⟩ = some (.bool a0_1) := (qAb BK192.out 1).trans rfl; have hcz11_2 : w10.cell? ⟨gb192, 2, none⟩ = some (.int .i64 a0_2) := (qAb BK192.out 2).trans rfl; have hcz11_3 : w10.cell? ⟨gb192, 3, none⟩ = some (.string a0_3) := (qAb BK192.out 3).trans rfl; have hcz11_4 : w10.cell? ⟨gb192, 4, none⟩ = some (.slice A0_4 l0_4.length c0_4) := (qAb BK192.out 4).trans rfl; have hcz11_5 : w10.cell? ⟨gb192, 5, none⟩ = some (.slice A0_5 l0_5.length c0_5) := (qAb BK192.out 5).trans rfl; have hfz11_0 := qAa BK192.out 0; have hfz11_1 := qAa BK192.out 1; have hfz11_2 := qAa BK192.out 2; have hfz11_3 := qAa BK192.out 3; have hfz11_4 := qAa BK192.out 4; have hfz11_5 := qAa BK192.out 5))
     repeat (go_quiet (first | (go_at_call 75; (with_reducible refine (hogsheadref15_plain.calls k a0_0 a0_1 a0_2 a0_3 _ _ l0_4 _ _ l0_5 true _ ?side1 ?side2 ?side3 ?side4 A6.out).mono ?_); (case side1 => repeat (first | exact (Kd.C_below HR0_4.out HB.out) | (with_reducible refine Kd.C_alloc ?_ _) | (with_reducible refine Kd.C_drewN ?_ _) | (with_reducible refine Kd.C_drew ?_))); (case side2 => exact HC0_4.out); (case side3 => repeat (first | exact (Kd.C_below HR0_5.out HB.out) | (with_reducible refine Kd.C_alloc ?_ _) | (with_reducible refine Kd.C_drewN ?_ _) | (with_reducible refine Kd.C_drew ?_))); (case side4 => exact HC0_5.out); rintro e w10 ⟨rfl, hb⟩; have n0_ := Aside0.mk (qAm (g := gb192) (o := .cells #[.int .i64 a0_0, .bool a0_1, .int .i64 a0_2, .string a0_3, .slice A0_4 l0_4.length c0_4, .slice A0_5 l0_5.length c0_5] 25 (0, 0)) (by (with_reducible repeat (first | refine qAg ?_ _ | refine qAi ?_ | refine blk_alloc ?_ _)); exact BK192.out) hb); have n1_ := Aside0.mk (qAj (by repeat (first | (with_reducible first | exact HB.out | apply qAd | apply qAc | apply qAe | refine qAf ?_ GE192.out) | exact HB.out)) hb); clear BK192; clear HB; have BK192 := n0_; have HB := n1_; clear n0_ n1_; (try clear hb); (try clear hb2); (try clear hk); (try clear hi); have hcz11_0 : w10.cell? ⟨gb192, 0, none⟩ = some (.int .i64 a0_0) := (qAb BK192.out 0).trans rfl; have hcz11_1 : w10.cell? ⟨gb192, 1, none⟩ = some (.bool a0_1) := (qAb BK192.out 1).trans rfl; have hcz11_2 : w10.cell? ⟨gb192, 2, none⟩ = some (.int .i64 a0_2) := (qAb BK192.out 2).trans rfl; have hcz11_3 : w10.cell? ⟨gb192, 3, none⟩ = some (.string a0_3) := (qAb BK192.out 3).trans rfl; have hcz11_4 : w10.cell? ⟨gb192, 4, none⟩ = some (.slice A0_4 l0_4.length c0_4) := (qAb BK192.out 4).trans rfl; have hcz11_5 : w10.cell? ⟨gb192, 5, none⟩ = some (.slice A0_5 l0_5.length c0_5) := (qAb BK192.out 5).trans rfl; have hfz11_0 := qAa BK192.out 0; have hfz11_1 := qAa BK192.out 1; have hfz11_2 := qAa BK192.out 2; have hfz11_3 := qAa BK192.out 3; have hfz11_4 := qAa BK192.out 4; have hfz11_5 := qAa BK192.out 5; (try clear A6))); try go_wp2_with (first | (go_at_call 75; (with_reducible refine (hogsheadref15_plain.calls k a0_0 a0_1 a0_2 a0_3 _ _ l0_4 _ _ l0_5 true _ ?side1 ?side2 ?side3 ?side4 A6.out).mono ?_); (case side1 => repeat (first | exact (Kd.C_below HR0_4.out HB.out) | (with_reducible refine Kd.C_alloc ?_ _) | (with_reducible refine Kd.C_drewN ?_ _) | (with_reducible refine Kd.C_drew ?_))); (case side2 => exact HC0_4.out); (case side3 => repeat (first | exact (Kd.C_below HR0_5.out HB.out) | (with_reducible refine Kd.C_alloc ?_ _) | (with_reducible refine Kd.C_drewN ?_ _) | (with_reducible refine Kd.C_drew ?_))); (case side4 => exact HC0_5.out); rintro e w10 ⟨rfl, hb⟩; have n0_ := Aside0.mk (qAm (g := gb192) (o := .cells #[.int .i64 a0_0, .bool a0_1, .int .i64 a0_2, .string a0_3, .slice A0_4 l0_4.length c0_4, .slice A0_5 l0_5.length c0_5] 25 (0, 0)) (by (with_reducible repeat (first | refine qAg ?_ _ | refine qAi ?_ | refine blk_alloc ?_ _)); exact BK192.out) hb); have n1_ := Aside0.mk (qAj (by repeat (first | (with_reducible first | exact HB.out | apply qAd | apply qAc | apply qAe | refine qAf ?_ GE192.out) | exact HB.out)) hb); clear BK192; clear HB; have BK192 := n0_; have HB := n1_; clear n0_ n1_; (try clear hb); (try clear hb2); (try clear hk); (try clear hi); have hcz11_0 : w10.cell? ⟨gb192, 0, none⟩ = some (.int .i64 a0_0) := (qAb BK192.out 0).trans rfl; have hcz11_1 : w10.cell? ⟨gb192, 1, none⟩ = some (.bool a0_1) := (qAb BK192.out 1).trans rfl; have hcz11_2 : w10.cell? ⟨gb192, 2, none⟩ = some (.int .i64 a0_2) := (qAb BK192.out 2).trans rfl; have hcz11_3 : w10.cell? ⟨gb192, 3, none⟩ = some (.string a0_3) := (qAb BK192.out 3).trans rfl; have hcz11_4 : w10.cell? ⟨gb192, 4, none⟩ = some (.slice A0_4 l0_4.length c0_4) := (qAb BK192.out 4).trans rfl; have hcz11_5 : w10.cell? ⟨gb192, 5, none⟩ = some (.slice A0_5 l0_5.length c0_5) := (qAb BK192.out 5).trans rfl; have hfz11_0 := qAa BK192.out 0; have hfz11_1 := qAa BK192.out 1; have hfz11_2 := qAa BK192.out 2; have hfz11_3 := qAa BK192.out 3; have hfz11_4 := qAa BK192.out 4; have hfz11_5 := qAa BK192.out 5; (try clear A6))))
     go_meet
     case rel => exact ⟨_, (true), (by first | rfl | (simp; done) | (simp [*]; done) | exact congrArg Value.bool (nil_ne _) | exact congrArg Value.bool (nil_eq _) | exact congrArg Value.bool (nil_ne' _)), H', ⟨by first | omega | exact Nat.le_refl _⟩, ⟨by (with_reducible repeat (first | refine qAg ?_ _ | refine qAi ?_ | refine blk_alloc ?_ _)); exact BK192.out⟩, ⟨by repeat (first | (with_reducible first | exact HB.out | apply qAd | apply qAc | apply qAe | refine qAf ?_ GE192.out) | exact HB.out)⟩⟩
    ·rw [if_neg c8] at H
     have c8b0 : decide (a0_0 < 0) = false := decide_eq_false c8
     clear c8
     by_cases c12 : a0_0 > 5
     ·rw [if_pos c12] at H
      have c12b0 : decide (5 < a0_0) = true := decide_eq_true c12
      clear c12
      have H' := Aside0.mk H
      clear H
      have hcz13_0 : w4.cell? ⟨gb192, 0, none⟩ = some (.int .i64 a0_0) := (qAb BK192.out 0).trans rfl
      have hcz13_1 : w4.cell? ⟨gb192, 1, none⟩ = some (.bool a0_1) := (qAb BK192.out 1).trans rfl
      have hcz13_2 : w4.cell? ⟨gb192, 2, none⟩ = some (.int .i64 a0_2) := (qAb BK192.out 2).trans rfl
      have hcz13_3 : w4.cell? ⟨gb192, 3, none⟩ = some (.string a0_3) := (qAb BK192.out 3).trans rfl
      have hcz13_4 : w4.cell? ⟨gb192, 4, none⟩ = some (.slice A0_4 l0_4.length c0_4) := (qAb BK192.out 4).trans rfl
      have hcz13_5 : w4.cell? ⟨gb192, 5, none⟩ = some (.slice A0_5 l0_5.length c0_5) := (qAb BK192.out 5).trans rfl
      have hfz13_0 := qAa BK192.out 0
      have hfz13_1 := qAa BK192.out 1
      have hfz13_2 := qAa BK192.out 2
      have hfz13_3 := qAa BK192.out 3
      have hfz13_4 := qAa BK192.out 4
      have hfz13_5 := qAa BK192.out 5
      go_wp2_with (first | (go_at_call 75; (with_reducible refine (hogsheadref15_plain.calls k a0_0 a0_1 a0_2 a0_3 _ _ l0_4 _ _ l0_5 true _ ?side1 ?side2 ?side3 ?side4 A6.out).mono ?_); (case side1 => repeat (first | exact (Kd.C_below HR0_4.out HB.out) | (with_reducible refine Kd.C_alloc ?_ _) | (with_reducible refine Kd.C_drewN ?_ _) | (with_reducible refine Kd.C_drew ?_))); (case side2 => exact HC0_4.out); (case side3 => repeat (first | exact (Kd.C_below HR0_5.out HB.out) | (with_reducible refine Kd.C_alloc ?_ _) | (with_reducible refine Kd.C_drewN ?_ _) | (with_reducible refine Kd.C_drew ?_))); (case side4 => exact HC0_5.out); rintro e w14 ⟨rfl, hb⟩; have n0_ := Aside0.mk (qAm (g := gb192) (o := .cells #[.int .i64 a0_0, .bool a0_1, .int .i64 a0_2, .string a0_3, .slice A0_4 l0_4.length c0_4, .slice A0_5 l0_5.length c0_5] 25 (0, 0)) (by (with_reducible repeat (first | refine qAg ?_ _ | refine qAi ?_ | refine blk_alloc ?_ _)); exact BK192.out) hb); have n1_ := Aside0.mk (qAj (by repeat (first | (with_reducible first | exact HB.out | apply qAd | apply qAc | apply qAe | refine qAf ?_ GE192.out) | exact HB.out)) hb); clear BK192; clear HB; have BK192 := n0_; have HB := n1_; clear n0_ n1_; (try clear hb); (try clear hb2); (try clear hk); (try clear hi); have hcz15_0 : w14.cell? ⟨gb192, 0, none⟩ = some (.int .i64 a0_0) := (qAb BK192.out 0).trans rfl; have hcz15_1 : w14.cell? ⟨gb192, 1, none⟩ = some (.bool a0_1) := (qAb BK192.out 1).trans rfl; have hcz15_2 : w14.cell? ⟨gb192, 2, none⟩ = some (.int .i64 a0_2) := (qAb BK192.out 2).trans rfl; have hcz15_3 : w14.cell? ⟨gb192, 3, none⟩ = some (.string a0_3) := (qAb BK192.out 3).trans rfl; have hcz15_4 : w14.cell? ⟨gb192, 4, none⟩ = some (.slice A0_4 l0_4.length c0_4) := (qAb BK192.out 4).trans rfl; have hcz15_5 : w14.cell? ⟨gb192, 5, none⟩ = some (.slice A0_5 l0_5.length c0_5) := (qAb BK192.out 5).trans rfl; have hfz15_0 := qAa BK192.out 0; have hfz15_1 := qAa BK192.out 1; have hfz15_2 := qAa BK192.out 2; have hfz15_3 := qAa BK192.out 3; have hfz15_4 := qAa BK192.out 4; have hfz15_5 := qAa BK192.out 5))
      repeat (go_quiet (first | (go_at_call 75; (with_reducible refine (hogsheadref15_plain.calls k a0_0 a0_1 a0_2 a0_3 _ _ l0_4 _ _ l0_5 true _ ?side1 ?side2 ?side3 ?side4 A6.out).mono ?_); (case side1 => repeat (first | exact (Kd.C_below HR0_4.out HB.out) | (with_reducible refine Kd.C_alloc ?_ _) | (with_reducible refine Kd.C_drewN ?_ _) | (with_reducible refine Kd.C_drew ?_))); (case side2 => exact HC0_4.out); (case side3 => repeat (first | exact (Kd.C_below HR0_5.out HB.out) | (with_reducible refine Kd.C_alloc ?_ _) | (with_reducible refine Kd.C_drewN ?_ _) | (with_reducible refine Kd.C_drew ?_))); (case side4 => exact HC0_5.out); rintro e w14 ⟨rfl, hb⟩; have n0_ := Aside0.mk (qAm (g := gb192) (o := .cells #[.int .i64 a0_0, .bool a0_1, .int .i64 a0_2, .string a0_3, .slice A0_4 l0_4.length c0_4, .slice A0_5 l0_5.length c0_5] 25 (0, 0)) (by (with_reducible repeat (first | refine qAg ?_ _ | refine qAi ?_ | refine blk_alloc ?_ _)); exact BK192.out) hb); have n1_ := Aside0.mk (qAj (by repeat (first | (with_reducible first | exact HB.out | apply qAd | apply qAc | apply qAe | refine qAf ?_ GE192.out) | exact HB.out)) hb); clear BK192; clear HB; have BK192 := n0_; have HB := n1_; clear n0_ n1_; (try clear hb); (try clear hb2); (try clear hk); (try clear hi); have hcz15_0 : w14.cell? ⟨gb192, 0, none⟩ = some (.int .i64 a0_0) := (qAb BK192.out 0).trans rfl; have hcz15_1 : w14.cell? ⟨gb192, 1, none⟩ = some (.bool a0_1) := (qAb BK192.out 1).trans rfl; have hcz15_2 : w14.cell? ⟨gb192, 2, none⟩ = some (.int .i64 a0_2) := (qAb BK192.out 2).trans rfl; have hcz15_3 : w14.cell? ⟨gb192, 3, none⟩ = some (.string a0_3) := (qAb BK192.out 3).trans rfl; have hcz15_4 : w14.cell? ⟨gb192, 4, none⟩ = some (.slice A0_4 l0_4.length c0_4) := (qAb BK192.out 4).trans rfl; have hcz15_5 : w14.cell? ⟨gb192, 5, none⟩ = some (.slice A0_5 l0_5.length c0_5) := (qAb BK192.out 5).trans rfl; have hfz15_0 := qAa BK192.out 0; have hfz15_1 := qAa BK192.out 1; have hfz15_2 := qAa BK192.out 2; have hfz15_3 := qAa BK192.out 3; have hfz15_4 := qAa BK192.out 4; have hfz15_5 := qAa BK192.out 5; (try clear A6))); try go_wp2_with (first | (go_at_call 75; (with_reducible refine (hogsheadref15_plain.calls k a0_0 a0_1 a0_2 a0_3 _ _ l0_4 _ _ l0_5 true _ ?side1 ?side2 ?side3 ?side4 A6.out).mono ?_); (case side1 => repeat (first | exact (Kd.C_below HR0_4.out HB.out) | (with_reducible refine Kd.C_alloc ?_ _) | (with_reducible refine Kd.C_drewN ?_ _) | (with_reducible refine Kd.C_drew ?_))); (case side2 => exact HC0_4.out); (case side3 => repeat (first | exact (Kd.C_below HR0_5.out HB.out) | (with_reducible refine Kd.C_alloc ?_ _) | (with_reducible refine Kd.C_drewN ?_ _) | (with_reducible refine Kd.C_drew ?_))); (case side4 => exact HC0_5.out); rintro e w14 ⟨rfl, hb⟩; have n0_ := Aside0.mk (qAm (g := gb192) (o := .cells #[.int .i64 a0_0, .bool a0_1, .int .i64 a0_2, .string a0_3, .slice A0_4 l0_4.length c0_4, .slice A0_5 l0_5.length c0_5] 25 (0, 0)) (by (with_reducible repeat (first | refine qAg ?_ _ | refine qAi ?_ | refine blk_alloc ?_ _)); exact BK192.out) hb); have n1_ := Aside0.mk (qAj (by repeat (first | (with_reducible first | exact HB.out | apply qAd | apply qAc | apply qAe | refine qAf ?_ GE192.out) | exact HB.out)) hb); clear BK192; clear HB; have BK192 := n0_; have HB := n1_; clear n0_ n1_; (try clear hb); (try clear hb2); (try clear hk); (try clear hi); have hcz15_0 : w14.cell? ⟨gb192, 0, none⟩ = some (.int .i64 a0_0) := (qAb BK192.out 0).trans rfl; have hcz15_1 : w14.cell? ⟨gb192, 1, none⟩ = some (.bool a0_1) := (qAb BK192.out 1).trans rfl; have hcz15_2 : w14.cell? ⟨gb192, 2, none⟩ = some (.int .i64 a0_2) := (qAb BK192.out 2).trans rfl; have hcz15_3 : w14.cell? ⟨gb192, 3, none⟩ = some (.string a0_3) := (qAb BK192.out 3).trans rfl; have hcz15_4 : w14.cell? ⟨gb192, 4, none⟩ = some (.slice A0_4 l0_4.length c0_4) := (qAb BK192.out 4).trans rfl; have hcz15_5 : w14.cell? ⟨gb192, 5, none⟩ = some (.slice A0_5 l0_5.length c0_5) := (qAb BK192.out 5).trans rfl; have hfz15_0 := qAa BK192.out 0; have hfz15_1 := qAa BK192.out 1; have hfz15_2 := qAa BK192.out 2; have hfz15_3 := qAa BK192.out 3; have hfz15_4 := qAa BK192.out 4; have hfz15_5 := qAa BK192.out 5; (try clear A6))))
      go_meet
      case rel => exact ⟨_, (true), (by first | rfl | (simp; done) | (simp [*]; done) | exact congrArg Value.bool (nil_ne _) | exact congrArg Value.bool (nil_eq _) | exact congrArg Value.bool (nil_ne' _)), H', ⟨by first | omega | exact Nat.le_refl _⟩, ⟨by (with_reducible repeat (first | refine qAg ?_ _ | refine qAi ?_ | refine blk_alloc ?_ _)); exact BK192.out⟩, ⟨by repeat (first | (with_reducible first | exact HB.out | apply qAd | apply qAc | apply qAe | refine qAf ?_ GE192.out) | exact HB.out)⟩⟩
     ·rw [if_neg c12] at H
      have c12b0 : decide (5 < a0_0) = false := decide_eq_false c12
      clear c12
      by_cases c16 : a0_2 < (-9007199254740992)
      ·rw [if_pos c16] at H
       have c16b0 : decide (a0_2 < (-9007199254740992)) = true := decide_eq_true c16
       clear c16
       have H' := Aside0.mk H
       clear H
       have hcz17_0 : w4.cell? ⟨gb192, 0, none⟩ = some (.int .i64 a0_0) := (qAb BK192.out 0).trans rfl
       have hcz17_1 : w4.cell? ⟨gb192, 1, none⟩ = some (.bool a0_1) := (qAb BK192.out 1).trans rfl
       have hcz17_2 : w4.cell? ⟨gb192, 2, none⟩ = some (.int .i64 a0_2) := (qAb BK192.out 2).trans rfl
       have hcz17_3 : w4.cell? ⟨gb192, 3, none⟩ = some (.string a0_3) := (qAb BK192.out 3).trans rfl
       have hcz17_4 : w4.cell? ⟨gb192, 4, none⟩ = some (.slice A0_4 l0_4.length c0_4) := (qAb BK192.out 4).trans rfl
       have hcz17_5 : w4.cell? ⟨gb192, 5, none⟩ = some (.slice A0_5 l0_5.length c0_5) := (qAb BK192.out 5).trans rfl
       have hfz17_0 := qAa BK192.out 0
       have hfz17_1 := qAa BK192.out 1
       have hfz17_2 := qAa BK192.out 2
       have hfz17_3 := qAa BK192.out 3
       have hfz17_4 := qAa BK192.out 4
       have hfz17_5 := qAa BK192.out 5
       go_wp2_with (first | (go_at_call 75; (with_reducible refine (hogsheadref15_plain.calls k a0_0 a0_1 a0_2 a0_3 _ _ l0_4 _ _ l0_5 true _ ?side1 ?side2 ?side3 ?side4 A6.out).mono ?_); (case side1 => repeat (first | exact (Kd.C_below HR0_4.out HB.out) | (with_reducible refine Kd.C_alloc ?_ _) | (with_reducible refine Kd.C_drewN ?_ _) | (with_reducible refine Kd.C_drew ?_))); (case side2 => exact HC0_4.out); (case side3 => repeat (first | exact (Kd.C_below HR0_5.out HB.out) | (with_reducible refine Kd.C_alloc ?_ _) | (with_reducible refine Kd.C_drewN ?_ _) | (with_reducible refine Kd.C_drew ?_))); (case side4 => exact HC0_5.out); rintro e w18 ⟨rfl, hb⟩; have n0_ := Aside0.mk (qAm (g := gb192) (o := .cells #[.int .i64 a0_0, .bool a0_1, .int .i64 a0_2, .string a0_3, .slice A0_4 l0_4.length c0_4, .slice A0_5 l0_5.length c0_5] 25 (0, 0)) (by (with_reducible repeat (first | refine qAg ?_ _ | refine qAi ?_ | refine blk_alloc ?_ _)); exact BK192.out) hb); have n1_ := Aside0.mk (qAj (by repeat (first | (with_reducible first | exact HB.out | apply qAd | apply qAc | apply qAe | refine qAf ?_ GE192.out) | exact HB.out)) hb); clear BK192; clear HB; have BK192 := n0_; have HB := n1_; clear n0_ n1_; (try clear hb); (try clear hb2); (try clear hk); (try clear hi); have hcz19_0 : w18.cell? ⟨gb192, 0, none⟩ = some (.int .i64 a0_0) := (qAb BK192.out 0).trans rfl; have hcz19_1 : w18.cell? ⟨gb192, 1, none⟩ = some (.bool a0_1) := (qAb BK192.out 1).trans rfl; have hcz19_2 : w18.cell? ⟨gb192, 2, none⟩ = some (.int .i64 a0_2) := (qAb BK192.out 2).trans rfl; have hcz19_3 : w18.cell? ⟨gb192, 3, none⟩ = some (.string a0_3) := (qAb BK192.out 3).trans rfl; have hcz19_4 : w18.cell? ⟨gb192, 4, none⟩ = some (.slice A0_4 l0_4.length c0_4) := (qAb BK192.out 4).trans rfl; have hcz19_5 : w18.cell? ⟨gb192, 5, none⟩ = some (.slice A0_5 l0_5.length c0_5) := (qAb BK192.out 5).trans rfl; have hfz19_0 := qAa BK192.out 0; have hfz19_1 := qAa BK192.out 1; have hfz19_2 := qAa BK192.out 2; have hfz19_3 := qAa BK192.out 3; have hfz19_4 := qAa BK192.out 4; have hfz19_5 := qAa BK192.out 5))
       repeat (go_quiet (first | (go_at_call 75; (with_reducible refine (hogsheadref15_plain.calls k a0_0 a0_1 a0_2 a0_3 _ _ l0_4 _ _ l0_5 true _ ?side1 ?side2 ?side3 ?side4 A6.out).mono ?_); (case side1 => repeat (first | exact (Kd.C_below HR0_4.out HB.out) | (with_reducible refine Kd.C_alloc ?_ _) | (with_reducible refine Kd.C_drewN ?_ _) | (with_reducible refine Kd.C_drew ?_))); (case side2 => exact HC0_4.out); (case side3 => repeat (first | exact (Kd.C_below HR0_5.out HB.out) | (with_reducible refine Kd.C_alloc ?_ _) | (with_reducible refine Kd.C_drewN ?_ _) | (with_reducible refine Kd.C_drew ?_))); (case side4 => exact HC0_5.out); rintro e w18 ⟨rfl, hb⟩; have n0_ := Aside0.mk (qAm (g := gb192) (o := .cells #[.int .i64 a0_0, .bool a0_1, .int .i64 a0_2, .string a0_3, .slice A0_4 l0_4.length c0_4, .slice A0_5 l0_5.length c0_5] 25 (0, 0)) (by (with_reducible repeat (first | refine qAg ?_ _ | refine qAi ?_ | refine blk_alloc ?_ _)); exact BK192.out) hb); have n1_ := Aside0.mk (qAj (by repeat (first | (with_reducible first | exact HB.out | apply qAd | apply qAc | apply qAe | refine qAf ?_ GE192.out) | exact HB.out)) hb); clear BK192; clear HB; have BK192 := n0_; have HB := n1_; clear n0_ n1_; (try clear hb); (try clear hb2); (try clear hk); (try clear hi); have hcz19_0 : w18.cell? ⟨gb192, 0, none⟩ = some (.int .i64 a0_0) := (qAb BK192.out 0).trans rfl; have hcz19_1 : w18.cell? ⟨gb192, 1, none⟩ = some (.bool a0_1) := (qAb BK192.out 1).trans rfl; have hcz19_2 : w18.cell? ⟨gb192, 2, none⟩ = some (.int .i64 a0_2) := (qAb BK192.out 2).trans rfl; have hcz19_3 : w18.cell? ⟨gb192, 3, none⟩ = some (.string a0_3) := (qAb BK192.out 3).trans rfl; have hcz19_4 : w18.cell? ⟨gb192, 4, none⟩ = some (.slice A0_4 l0_4.length c0_4) := (qAb BK192.out 4).trans rfl; have hcz19_5 : w18.cell? ⟨gb192, 5, none⟩ = some (.slice A0_5 l0_5.length c0_5) := (qAb BK192.out 5).trans rfl; have hfz19_0 := qAa BK192.out 0; have hfz19_1 := qAa BK192.out 1; have hfz19_2 := qAa BK192.out 2; have hfz19_3 := qAa BK192.out 3; have hfz19_4 := qAa BK192.out 4; have hfz19_5 := qAa BK192.out 5; (try clear A6))); try go_wp2_with (first | (go_at_call 75; (with_reducible refine (hogsheadref15_plain.calls k a0_0 a0_1 a0_2 a0_3 _ _ l0_4 _ _ l0_5 true _ ?side1 ?side2 ?side3 ?side4 A6.out).mono ?_); (case side1 => repeat (first | exact (Kd.C_below HR0_4.out HB.out) | (with_reducible refine Kd.C_alloc ?_ _) | (with_reducible refine Kd.C_drewN ?_ _) | (with_reducible refine Kd.C_drew ?_))); (case side2 => exact HC0_4.out); (case side3 => repeat (first | exact (Kd.C_below HR0_5.out HB.out) | (with_reducible refine Kd.C_alloc ?_ _) | (with_reducible refine Kd.C_drewN ?_ _) | (with_reducible refine Kd.C_drew ?_))); (case side4 => exact HC0_5.out); rintro e w18 ⟨rfl, hb⟩; have n0_ := Aside0.mk (qAm (g := gb192) (o := .cells #[.int .i64 a0_0, .bool a0_1, .int .i64 a0_2, .string a0_3, .slice A0_4 l0_4.length c0_4, .slice A0_5 l0_5.length c0_5] 25 (0, 0)) (by (with_reducible repeat (first | refine qAg ?_ _ | refine qAi ?_ | refine blk_alloc ?_ _)); exact BK192.out) hb); have n1_ := Aside0.mk (qAj (by repeat (first | (with_reducible first | exact HB.out | apply qAd | apply qAc | apply qAe | refine qAf ?_ GE192.out) | exact HB.out)) hb); clear BK192; clear HB; have BK192 := n0_; have HB := n1_; clear n0_ n1_; (try clear hb); (try clear hb2); (try clear hk); (try clear hi); have hcz19_0 : w18.cell? ⟨gb192, 0, none⟩ = some (.int .i64 a0_0) := (qAb BK192.out 0).trans rfl; have hcz19_1 : w18.cell? ⟨gb192, 1, none⟩ = some (.bool a0_1) := (qAb BK192.out 1).trans rfl; have hcz19_2 : w18.cell? ⟨gb192, 2, none⟩ = some (.int .i64 a0_2) := (qAb BK192.out 2).trans rfl; have hcz19_3 : w18.cell? ⟨gb192, 3, none⟩ = some (.string a0_3) := (qAb BK192.out 3).trans rfl; have hcz19_4 : w18.cell? ⟨gb192, 4, none⟩ = some (.slice A0_4 l0_4.length c0_4) := (qAb BK192.out 4).trans rfl; have hcz19_5 : w18.cell? ⟨gb192, 5, none⟩ = some (.slice A0_5 l0_5.length c0_5) := (qAb BK192.out 5).trans rfl; have hfz19_0 := qAa BK192.out 0; have hfz19_1 := qAa BK192.out 1; have hfz19_2 := qAa BK192.out 2; have hfz19_3 := qAa BK192.out 3; have hfz19_4 := qAa BK192.out 4; have hfz19_5 := qAa BK192.out 5; (try clear A6))))
       go_meet
       case rel => exact ⟨_, (true), (by first | rfl | (simp; done) | (simp [*]; done) | exact congrArg Value.bool (nil_ne _) | exact congrArg Value.bool (nil_eq _) | exact congrArg Value.bool (nil_ne' _)), H', ⟨by first | omega | exact Nat.le_refl _⟩, ⟨by (with_reducible repeat (first | refine qAg ?_ _ | refine qAi ?_ | refine blk_alloc ?_ _)); exact BK192.out⟩, ⟨by repeat (first | (with_reducible first | exact HB.out | apply qAd | apply qAc | apply qAe | refine qAf ?_ GE192.out) | exact HB.out)⟩⟩
      ·rw [if_neg c16] at H
       have c16b0 : decide (a0_2 < (-9007199254740992)) = false := decide_eq_false c16
       clear c16
       have H' := Aside0.mk H
       clear H
       have hcz20_0 : w4.cell? ⟨gb192, 0, none⟩ = some (.int .i64 a0_0) := (qAb BK192.out 0).trans rfl
       have hcz20_1 : w4.cell? ⟨gb192, 1, none⟩ = some (.bool a0_1) := (qAb BK192.out 1).trans rfl
       have hcz20_2 : w4.cell? ⟨gb192, 2, none⟩ = some (.int .i64 a0_2) := (qAb BK192.out 2).trans rfl
       have hcz20_3 : w4.cell? ⟨gb192, 3, none⟩ = some (.string a0_3) := (qAb BK192.out 3).trans rfl
       have hcz20_4 : w4.cell? ⟨gb192, 4, none⟩ = some (.slice A0_4 l0_4.length c0_4) := (qAb BK192.out 4).trans rfl
       have hcz20_5 : w4.cell? ⟨gb192, 5, none⟩ = some (.slice A0_5 l0_5.length c0_5) := (qAb BK192.out 5).trans rfl
       have hfz20_0 := qAa BK192.out 0
       have hfz20_1 := qAa BK192.out 1
       have hfz20_2 := qAa BK192.out 2
       have hfz20_3 := qAa BK192.out 3
       have hfz20_4 := qAa BK192.out 4
       have hfz20_5 := qAa BK192.out 5
       go_wp2_with (first | (go_at_call 75; (with_reducible refine (hogsheadref15_plain.calls k a0_0 a0_1 a0_2 a0_3 _ _ l0_4 _ _ l0_5 true _ ?side1 ?side2 ?side3 ?side4 A6.out).mono ?_); (case side1 => repeat (first | exact (Kd.C_below HR0_4.out HB.out) | (with_reducible refine Kd.C_alloc ?_ _) | (with_reducible refine Kd.C_drewN ?_ _) | (with_reducible refine Kd.C_drew ?_))); (case side2 => exact HC0_4.out); (case side3 => repeat (first | exact (Kd.C_below HR0_5.out HB.out) | (with_reducible refine Kd.C_alloc ?_ _) | (with_reducible refine Kd.C_drewN ?_ _) | (with_reducible refine Kd.C_drew ?_))); (case side4 => exact HC0_5.out); rintro e w21 ⟨rfl, hb⟩; have n0_ := Aside0.mk (qAm (g := gb192) (o := .cells #[.int .i64 a0_0, .bool a0_1, .int .i64 a0_2, .string a0_3, .slice A0_4 l0_4.length c0_4, .slice A0_5 l0_5.length c0_5] 25 (0, 0)) (by (with_reducible repeat (first | refine qAg ?_ _ | refine qAi ?_ | refine blk_alloc ?_ _)); exact BK192.out) hb); have n1_ := Aside0.mk (qAj (by repeat (first | (with_reducible first | exact HB.out | apply qAd | apply qAc | apply qAe | refine qAf ?_ GE192.out) | exact HB.out)) hb); clear BK192; clear HB; have BK192 := n0_; have HB := n1_; clear n0_ n1_; (try clear hb); (try clear hb2); (try clear hk); (try clear hi); have hcz22_0 : w21.cell? ⟨gb192, 0, none⟩ = some (.int .i64 a0_0) := (qAb BK192.out 0).trans rfl; have hcz22_1 : w21.cell? ⟨gb192, 1, none⟩ = some (.bool a0_1) := (qAb BK192.out 1).trans rfl; have hcz22_2 : w21.cell? ⟨gb192, 2, none⟩ = some (.int .i64 a0_2) := (qAb BK192.out 2).trans rfl; have hcz22_3 : w21.cell? ⟨gb192, 3, none⟩ = some (.string a0_3) := (qAb BK192.out 3).trans rfl; have hcz22_4 : w21.cell? ⟨gb192, 4, none⟩ = some (.slice A0_4 l0_4.length c0_4) := (qAb BK192.out 4).trans rfl; have hcz22_5 : w21.cell? ⟨gb192, 5, none⟩ = some (.slice A0_5 l0_5.length c0_5) := (qAb BK192.out 5).trans rfl; have hfz22_0 := qAa BK192.out 0; have hfz22_1 := qAa BK192.out 1; have hfz22_2 := qAa BK192.out 2; have hfz22_3 := qAa BK192.out 3; have hfz22_4 := qAa BK192.out 4; have hfz22_5 := qAa BK192.out 5))
       repeat (go_quiet (first | (go_at_call 75; (with_reducible refine (hogsheadref15_plain.calls k a0_0 a0_1 a0_2 a0_3 _ _ l0_4 _ _ l0_5 true _ ?side1 ?side2 ?side3 ?side4 A6.out).mono ?_); (case side1 => repeat (first | exact (Kd.C_below HR0_4.out HB.out) | (with_reducible refine Kd.C_alloc ?_ _) | (with_reducible refine Kd.C_drewN ?_ _) | (with_reducible refine Kd.C_drew ?_))); (case side2 => exact HC0_4.out); (case side3 => repeat (first | exact (Kd.C_below HR0_5.out HB.out) | (with_reducible refine Kd.C_alloc ?_ _) | (with_reducible refine Kd.C_drewN ?_ _) | (with_reducible refine Kd.C_drew ?_))); (case side4 => exact HC0_5.out); rintro e w21 ⟨rfl, hb⟩; have n0_ := Aside0.mk (qAm (g := gb192) (o := .cells #[.int .i64 a0_0, .bool a0_1, .int .i64 a0_2, .string a0_3, .slice A0_4 l0_4.length c0_4, .slice A0_5 l0_5.length c0_5] 25 (0, 0)) (by (with_reducible repeat (first | refine qAg ?_ _ | refine qAi ?_ | refine blk_alloc ?_ _)); exact BK192.out) hb); have n1_ := Aside0.mk (qAj (by repeat (first | (with_reducible first | exact HB.out | apply qAd | apply qAc | apply qAe | refine qAf ?_ GE192.out) | exact HB.out)) hb); clear BK192; clear HB; have BK192 := n0_; have HB := n1_; clear n0_ n1_; (try clear hb); (try clear hb2); (try clear hk); (try clear hi); have hcz22_0 : w21.cell? ⟨gb192, 0, none⟩ = some (.int .i64 a0_0) := (qAb BK192.out 0).trans rfl; have hcz22_1 : w21.cell? ⟨gb192, 1, none⟩ = some (.bool a0_1) := (qAb BK192.out 1).trans rfl; have hcz22_2 : w21.cell? ⟨gb192, 2, none⟩ = some (.int .i64 a0_2) := (qAb BK192.out 2).trans rfl; have hcz22_3 : w21.cell? ⟨gb192, 3, none⟩ = some (.string a0_3) := (qAb BK192.out 3).trans rfl; have hcz22_4 : w21.cell? ⟨gb192, 4, none⟩ = some (.slice A0_4 l0_4.length c0_4) := (qAb BK192.out 4).trans rfl; have hcz22_5 : w21.cell? ⟨gb192, 5, none⟩ = some (.slice A0_5 l0_5.length c0_5) := (qAb BK192.out 5).trans rfl; have hfz22_0 := qAa BK192.out 0; have hfz22_1 := qAa BK192.out 1; have hfz22_2 := qAa BK192.out 2; have hfz22_3 := qAa BK192.out 3; have hfz22_4 := qAa BK192.out 4; have hfz22_5 := qAa BK192.out 5; (try clear A6))); try go_wp2_with (first | (go_at_call 75; (with_reducible refine (hogsheadref15_plain.calls k a0_0 a0_1 a0_2 a0_3 _ _ l0_4 _ _ l0_5 true _ ?side1 ?side2 ?side3 ?side4 A6.out).mono ?_); (case side1 => repeat (first | exact (Kd.C_below HR0_4.out HB.out) | (with_reducible refine Kd.C_alloc ?_ _) | (with_reducible refine Kd.C_drewN ?_ _) | (with_reducible refine Kd.C_drew ?_))); (case side2 => exact HC0_4.out); (case side3 => repeat (first | exact (Kd.C_below HR0_5.out HB.out) | (with_reducible refine Kd.C_alloc ?_ _) | (with_reducible refine Kd.C_drewN ?_ _) | (with_reducible refine Kd.C_drew ?_))); (case side4 => exact HC0_5.out); rintro e w21 ⟨rfl, hb⟩; have n0_ := Aside0.mk (qAm (g := gb192) (o := .cells #[.int .i64 a0_0, .bool a0_1, .int .i64 a0_2, .string a0_3, .slice A0_4 l0_4.length c0_4, .slice A0_5 l0_5.length c0_5] 25 (0, 0)) (by (with_reducible repeat (first | refine qAg ?_ _ | refine qAi ?_ | refine blk_alloc ?_ _)); exact BK192.out) hb); have n1_ := Aside0.mk (qAj (by repeat (first | (with_reducible first | exact HB.out | apply qAd | apply qAc | apply qAe | refine qAf ?_ GE192.out) | exact HB.out)) hb); clear BK192; clear HB; have BK192 := n0_; have HB := n1_; clear n0_ n1_; (try clear hb); (try clear hb2); (try clear hk); (try clear hi); have hcz22_0 : w21.cell? ⟨gb192, 0, none⟩ = some (.int .i64 a0_0) := (qAb BK192.out 0).trans rfl; have hcz22_1 : w21.cell? ⟨gb192, 1, none⟩ = some (.bool a0_1) := (qAb BK192.out 1).trans rfl; have hcz22_2 : w21.cell? ⟨gb192, 2, none⟩ = some (.int .i64 a0_2) := (qAb BK192.out 2).trans rfl; have hcz22_3 : w21.cell? ⟨gb192, 3, none⟩ = some (.string a0_3) := (qAb BK192.out 3).trans rfl; have hcz22_4 : w21.cell? ⟨gb192, 4, none⟩ = some (.slice A0_4 l0_4.length c0_4) := (qAb BK192.out 4).trans rfl; have hcz22_5 : w21.cell? ⟨gb192, 5, none⟩ = some (.slice A0_5 l0_5.length c0_5) := (qAb BK192.out 5).trans rfl; have hfz22_0 := qAa BK192.out 0; have hfz22_1 := qAa BK192.out 1; have hfz22_2 := qAa BK192.out 2; have hfz22_3 := qAa BK192.out 3; have hfz22_4 := qAa BK192.out 4; have hfz22_5 := qAa BK192.out 5; (try clear A6))))
       go_meet
       case rel => exact ⟨_, (decide (a0_2 > 9007199254740992)), (by first | rfl | (simp; done) | (simp [*]; done) | exact congrArg Value.bool (nil_ne _) | exact congrArg Value.bool (nil_eq _) | exact congrArg Value.bool (nil_ne' _)), H', ⟨by first | omega | exact Nat.le_refl _⟩, ⟨by (with_reducible repeat (first | refine qAg ?_ _ | refine qAi ?_ | refine blk_alloc ?_ _)); exact BK192.out⟩, ⟨by repeat (first | (with_reducible first | exact HB.out | apply qAd | apply qAc | apply qAe | refine qAf ?_ GE192.out) | exact HB.out)⟩⟩
   ·replace c7 := Bool.eq_false_iff.mpr c7
    subst c7
    have H1 : (hogsheadref15_may.j0 k a1 true a0_0 a0_1 a0_2 a0_3 l0_4 l0_5) = some r := by rw [if_neg (show ¬ (false = true) by decide)] at H; exact H
    clear H
    have H := H1
    clear H1
    have H' := Aside0.mk H
    clear H
    have hcz23_0 : w4.cell? ⟨gb192, 0, none⟩ = some (.int .i64 a0_0) := (qAb BK192.out 0).trans rfl
    have hcz23_1 : w4.cell? ⟨gb192, 1, none⟩ = some (.bool a0_1) := (qAb BK192.out 1).trans rfl
    have hcz23_2 : w4.cell? ⟨gb192, 2, none⟩ = some (.int .i64 a0_2) := (qAb BK192.out 2).trans rfl
    have hcz23_3 : w4.cell? ⟨gb192, 3, none⟩ = some (.string a0_3) := (qAb BK192.out 3).trans rfl
    have hcz23_4 : w4.cell? ⟨gb192, 4, none⟩ = some (.slice A0_4 l0_4.length c0_4) := (qAb BK192.out 4).trans rfl
    have hcz23_5 : w4.cell? ⟨gb192, 5, none⟩ = some (.slice A0_5 l0_5.length c0_5) := (qAb BK192.out 5).trans rfl
    have hfz23_0 := qAa BK192.out 0
    have hfz23_1 := qAa BK192.out 1
    have hfz23_2 := qAa BK192.out 2
    have hfz23_3 := qAa BK192.out 3
    have hfz23_4 := qAa BK192.out 4
    have hfz23_5 := qAa BK192.out 5
    go_wp2_with (first | (go_at_call 75; (with_reducible refine (hogsheadref15_plain.calls k a0_0 a0_1 a0_2 a0_3 _ _ l0_4 _ _ l0_5 false _ ?side1 ?side2 ?side3 ?side4 A6.out).mono ?_); (case side1 => repeat (first | exact (Kd.C_below HR0_4.out HB.out) | (with_reducible refine Kd.C_alloc ?_ _) | (with_reducible refine Kd.C_drewN ?_ _) | (with_reducible refine Kd.C_drew ?_))); (case side2 => exact HC0_4.out); (case side3 => repeat (first | exact (Kd.C_below HR0_5.out HB.out) | (with_reducible refine Kd.C_alloc ?_ _) | (with_reducible refine Kd.C_drewN ?_ _) | (with_reducible refine Kd.C_drew ?_))); (case side4 => exact HC0_5.out); rintro e w24 ⟨rfl, hb⟩; have n0_ := Aside0.mk (qAm (g := gb192) (o := .cells #[.int .i64 a0_0, .bool a0_1, .int .i64 a0_2, .string a0_3, .slice A0_4 l0_4.length c0_4, .slice A0_5 l0_5.length c0_5] 25 (0, 0)) (by (with_reducible repeat (first | refine qAg ?_ _ | refine qAi ?_ | refine blk_alloc ?_ _)); exact BK192.out) hb); have n1_ := Aside0.mk (qAj (by repeat (first | (with_reducible first | exact HB.out | apply qAd | apply qAc | apply qAe | refine qAf ?_ GE192.out) | exact HB.out)) hb); clear BK192; clear HB; have BK192 := n0_; have HB := n1_; clear n0_ n1_; (try clear hb); (try clear hb2); (try clear hk); (try clear hi)))
    repeat (go_quiet (first | (go_at_call 75; (with_reducible refine (hogsheadref15_plain.calls k a0_0 a0_1 a0_2 a0_3 _ _ l0_4 _ _ l0_5 false _ ?side1 ?side2 ?side3 ?side4 A6.out).mono ?_); (case side1 => repeat (first | exact (Kd.C_below HR0_4.out HB.out) | (with_reducible refine Kd.C_alloc ?_ _) | (with_reducible refine Kd.C_drewN ?_ _) | (with_reducible refine Kd.C_drew ?_))); (case side2 => exact HC0_4.out); (case side3 => repeat (first | exact (Kd.C_below HR0_5.out HB.out) | (with_reducible refine Kd.C_alloc ?_ _) | (with_reducible refine Kd.C_drewN ?_ _) | (with_reducible refine Kd.C_drew ?_))); (case side4 => exact HC0_5.out); rintro e w24 ⟨rfl, hb⟩; have n0_ := Aside0.mk (qAm (g := gb192) (o := .cells #[.int .i64 a0_0, .bool a0_1, .int .i64 a0_2, .string a0_3, .slice A0_4 l0_4.length c0_4, .slice A0_5 l0_5.length c0_5] 25 (0, 0)) (by (with_reducible repeat (first | refine qAg ?_ _ | refine qAi ?_ | refine blk_alloc ?_ _)); exact BK192.out) hb); have n1_ := Aside0.mk (qAj (by repeat (first | (with_reducible first | exact HB.out | apply qAd | apply qAc | apply qAe | refine qAf ?_ GE192.out) | exact HB.out)) hb); clear BK192; clear HB; have BK192 := n0_; have HB := n1_; clear n0_ n1_; (try clear hb); (try clear hb2); (try clear hk); (try clear hi); (try clear A6))); try go_wp2_with (first | (go_at_call 75; (with_reducible refine (hogsheadref15_plain.calls k a0_0 a0_1 a0_2 a0_3 _ _ l0_4 _ _ l0_5 false _ ?side1 ?side2 ?side3 ?side4 A6.out).mono ?_); (case side1 => repeat (first | exact (Kd.C_below HR0_4.out HB.out) | (with_reducible refine Kd.C_alloc ?_ _) | (with_reducible refine Kd.C_drewN ?_ _) | (with_reducible refine Kd.C_drew ?_))); (case side2 => exact HC0_4.out); (case side3 => repeat (first | exact (Kd.C_below HR0_5.out HB.out) | (with_reducible refine Kd.C_alloc ?_ _) | (with_reducible refine Kd.C_drewN ?_ _) | (with_reducible refine Kd.C_drew ?_))); (case side4 => exact HC0_5.out); rintro e w24 ⟨rfl, hb⟩; have n0_ := Aside0.mk (qAm (g := gb192) (o := .cells #[.int .i64 a0_0, .bool a0_1, .int .i64 a0_2, .string a0_3, .slice A0_4 l0_4.length c0_4, .slice A0_5 l0_5.length c0_5] 25 (0, 0)) (by (with_reducible repeat (first | refine qAg ?_ _ | refine qAi ?_ | refine blk_alloc ?_ _)); exact BK192.out) hb); have n1_ := Aside0.mk (qAj (by repeat (first | (with_reducible first | exact HB.out | apply qAd | apply qAc | apply qAe | refine qAf ?_ GE192.out) | exact HB.out)) hb); clear BK192; clear HB; have BK192 := n0_; have HB := n1_; clear n0_ n1_; (try clear hb); (try clear hb2); (try clear hk); (try clear hi); (try clear A6))))
    go_meet
    case rel => exact ⟨_, (true), (by first | rfl | (simp; done) | (simp [*]; done) | exact congrArg Value.bool (nil_ne _) | exact congrArg Value.bool (nil_eq _) | exact congrArg Value.bool (nil_ne' _)), H', ⟨by first | omega | exact Nat.le_refl _⟩, ⟨by (with_reducible repeat (first | refine qAg ?_ _ | refine qAi ?_ | refine blk_alloc ?_ _)); exact BK192.out⟩, ⟨by repeat (first | (with_reducible first | exact HB.out | apply qAd | apply qAc | apply qAe | refine qAf ?_ GE192.out) | exact HB.out)⟩⟩
 case rest =>
  clear HC3
  try clear c1
  try clear p2
  try clear c5
  try clear c5b0
  try clear c7
  try clear c8
  try clear c8b0
  try clear c12
  try clear c12b0
  try clear c16
  try clear c16b0
  try clear hcz11_0
  try clear hcz11_1
  try clear hcz11_2
  try clear hcz11_3
  try clear hcz11_4
  try clear hcz11_5
  try clear hcz13_0
  try clear hcz13_1
  try clear hcz13_2
  try clear hcz13_3
  try clear hcz13_4
  try clear hcz13_5
  try clear hcz15_0
  try clear hcz15_1
  try clear hcz15_2
  try clear hcz15_3
  try clear hcz15_4
  try clear hcz15_5
  try clear hcz17_0
  try clear hcz17_1
  try clear hcz17_2
  try clear hcz17_3
  try clear hcz17_4
  try clear hcz17_5
  try clear hcz19_0
  try clear hcz19_1
  try clear hcz19_2
  try clear hcz19_3
  try clear hcz19_4
  try clear hcz19_5
  try clear hcz20_0
  try clear hcz20_1
  try clear hcz20_2
  try clear hcz20_3
  try clear hcz20_4
  try clear hcz20_5
  try clear hcz22_0
  try clear hcz22_1
  try clear hcz22_2
  try clear hcz22_3
  try clear hcz22_4
  try clear hcz22_5
  try clear hcz23_0
  try clear hcz23_1
  try clear hcz23_2
  try clear hcz23_3
  try clear hcz23_4
  try clear hcz23_5
  try clear hcz9_0
  try clear hcz9_1
  try clear hcz9_2
  try clear hcz9_3
  try clear hcz9_4
  try clear hcz9_5
  try clear hfz11_0
  try clear hfz11_1
  try clear hfz11_2
  try clear hfz11_3
  try clear hfz11_4
  try clear hfz11_5
  try clear hfz13_0
  try clear hfz13_1
  try clear hfz13_2
  try clear hfz13_3
  try clear hfz13_4
  try clear hfz13_5
  try clear hfz15_0
  try clear hfz15_1
  try clear hfz15_2
  try clear hfz15_3
  try clear hfz15_4
  try clear hfz15_5
  try clear hfz17_0
  try clear hfz17_1
  try clear hfz17_2
  try clear hfz17_3
  try clear hfz17_4
  try clear hfz17_5
  try clear hfz19_0
  try clear hfz19_1
  try clear hfz19_2
  try clear hfz19_3
  try clear hfz19_4
  try clear hfz19_5
  try clear hfz20_0
  try clear hfz20_1
  try clear hfz20_2
  try clear hfz20_3
  try clear hfz20_4
  try clear hfz20_5
  try clear hfz22_0
  try clear hfz22_1
  try clear hfz22_2
  try clear hfz22_3
  try clear hfz22_4
  try clear hfz22_5
  try clear hfz23_0
  try clear hfz23_1
  try clear hfz23_2
  try clear hfz23_3
  try clear hfz23_4
  try clear hfz23_5
  try clear hfz9_0
  try clear hfz9_1
  try clear hfz9_2
  try clear hfz9_3
  try clear hfz9_4
  try clear hfz9_5
  obtain ⟨kq, x33_2, rfl, HA, HJ2, BK192, HB⟩ := hcut
  cases kq with
  | zero => exact absurd HA.out (by simp [hogsheadref15_may.j0])
  | succ kj2 =>
   have H := HA.out
   clear HA
   simp only [hogsheadref15_may.j0] at H
   by_cases c25 : x33_2 = true
   ·subst c25
    have H1 : (some false) = some r := by rw [if_pos rfl] at H; exact H
    clear H
    have H := H1
    clear H1
    obtain rfl := Option.some.inj H
    go_wp2
    repeat (go_quiet (fail); try go_wp2)
    go_ret
    exact ⟨by first | rfl | (simp [qAl, qAk] <;> rfl) | (simp [*, qAl, qAk] <;> rfl), by repeat (first | (with_reducible first | exact HB.out | apply qAd | apply qAc | apply qAe | refine qAf ?_ GE192.out) | exact HB.out)⟩
   ·replace c25 := Bool.eq_false_iff.mpr c25
    subst c25
    have H1 : (if a0_0 = 5 then (hogsheadref15_may.j1 kj2 a1 ((l0_5.length : Int) != (l0_4.length : Int)) a0_0 a0_1 a0_2 a0_3 l0_4 l0_5) else (hogsheadref15_may.j1 kj2 a1 false a0_0 a0_1 a0_2 a0_3 l0_4 l0_5)) = some r := by rw [if_neg (show ¬ (false = true) by decide)] at H; exact H
    clear H
    have H := H1
    clear H1
    have HC26 := Aside0.mk H
    clear H
    go_upto_region 3 with (fail)
    repeat (go_quiet (fail); go_upto_region 3 with (fail))
    go_cut [45] (fun v45 wc => ∃ (kq : Nat) (x45_25 : Bool), v45 = .bool x45_25 ∧ Aside0 (hogsheadref15_may.j1 kq a1 x45_25 a0_0 a0_1 a0_2 a0_3 l0_4 l0_5 = some r) ∧ Aside0 (kq ≤ kj2) ∧ Aside0 (wc.heap[gb192]? = some (.cells #[.int .i64 a0_0, .bool a0_1, .int .i64 a0_2, .string a0_3, (.slice A0_4 l0_4.length c0_4), (.slice A0_5 l0_5.length c0_5)] 25 (0, 0))) ∧ Aside0 (Below w.heap.size w wc))
    case first =>
     have H := HC26.out
     clear HC26
     by_cases c27 : a0_0 = 5
     ·rw [if_pos c27] at H
      have c27b0 : (a0_0 == 5) = true := beq_iff_eq.mpr c27
      have c27b1 : (a0_0 != 5) = false := bne_eq_false_iff_eq.mpr c27
      clear c27
      (first | rw [c27b0] | (simp only [i64_w, i32_w]; rw [c27b0]) | skip)
      have H' := Aside0.mk H
      clear H
      have hcz28_0 : wc.cell? ⟨gb192, 0, none⟩ = some (.int .i64 a0_0) := (qAb BK192.out 0).trans rfl
      have hcz28_1 : wc.cell? ⟨gb192, 1, none⟩ = some (.bool a0_1) := (qAb BK192.out 1).trans rfl
      have hcz28_2 : wc.cell? ⟨gb192, 2, none⟩ = some (.int .i64 a0_2) := (qAb BK192.out 2).trans rfl
      have hcz28_3 : wc.cell? ⟨gb192, 3, none⟩ = some (.string a0_3) := (qAb BK192.out 3).trans rfl
      have hcz28_4 : wc.cell? ⟨gb192, 4, none⟩ = some (.slice A0_4 l0_4.length c0_4) := (qAb BK192.out 4).trans rfl
      have hcz28_5 : wc.cell? ⟨gb192, 5, none⟩ = some (.slice A0_5 l0_5.length c0_5) := (qAb BK192.out 5).trans rfl
      have hfz28_0 := qAa BK192.out 0
      have hfz28_1 := qAa BK192.out 1
      have hfz28_2 := qAa BK192.out 2
      have hfz28_3 := qAa BK192.out 3
      have hfz28_4 := qAa BK192.out 4
      have hfz28_5 := qAa BK192.out 5
      go_wp2
      repeat (go_quiet (fail); try go_wp2)
      go_meet
      case rel => exact ⟨_, (((l0_5.length : Int) != (l0_4.length : Int))), (by first | rfl | (simp; done) | (simp [*]; done) | exact congrArg Value.bool (nil_ne _) | exact congrArg Value.bool (nil_eq _) | exact congrArg Value.bool (nil_ne' _)), H', ⟨by have := HJ2.out; first | omega | exact Nat.le_refl _⟩, ⟨by (with_reducible repeat (first | refine qAg ?_ _ | refine qAi ?_ | refine blk_alloc ?_ _)); exact BK192.out⟩, ⟨by repeat (first | (with_reducible first | exact HB.out | apply qAd | apply qAc | apply qAe | refine qAf ?_ GE192.out) | exact HB.out)⟩⟩
     ·rw [if_neg c27] at H
      have c27b0 : (a0_0 == 5) = false := beq_eq_false_iff_ne.mpr c27
      have c27b1 : (a0_0 != 5) = true := bne_iff_ne.mpr c27
      (first | rw [c27b0] | (simp only [i64_w, i32_w]; rw [c27b0]) | skip)
      have H' := Aside0.mk H
      clear H
      have hcz29_0 : wc.cell? ⟨gb192, 0, none⟩ = some (.int .i64 a0_0) := (qAb BK192.out 0).trans rfl
      have hcz29_1 : wc.cell? ⟨gb192, 1, none⟩ = some (.bool a0_1) := (qAb BK192.out 1).trans rfl
      have hcz29_2 : wc.cell? ⟨gb192, 2, none⟩ = some (.int .i64 a0_2) := (qAb BK192.out 2).trans rfl
      have hcz29_3 : wc.cell? ⟨gb192, 3, none⟩ = some (.string a0_3) := (qAb BK192.out 3).trans rfl
      have hcz29_4 : wc.cell? ⟨gb192, 4, none⟩ = some (.slice A0_4 l0_4.length c0_4) := (qAb BK192.out 4).trans rfl
      have hcz29_5 : wc.cell? ⟨gb192, 5, none⟩ = some (.slice A0_5 l0_5.length c0_5) := (qAb BK192.out 5).trans rfl
      have hfz29_0 := qAa BK192.out 0
      have hfz29_1 := qAa BK192.out 1
      have hfz29_2 := qAa BK192.out 2
      have hfz29_3 := qAa BK192.out 3
      have hfz29_4 := qAa BK192.out 4
      have hfz29_5 := qAa BK192.out 5
      go_wp2
      repeat (go_quiet (fail); try go_wp2)
      go_meet
      case rel => exact ⟨_, (false), (by first | rfl | (simp; done) | (simp [*]; done) | exact congrArg Value.bool (nil_ne _) | exact congrArg Value.bool (nil_eq _) | exact congrArg Value.bool (nil_ne' _)), H', ⟨by have := HJ2.out; first | omega | exact Nat.le_refl _⟩, ⟨by (with_reducible repeat (first | refine qAg ?_ _ | refine qAi ?_ | refine blk_alloc ?_ _)); exact BK192.out⟩, ⟨by repeat (first | (with_reducible first | exact HB.out | apply qAd | apply qAc | apply qAe | refine qAf ?_ GE192.out) | exact HB.out)⟩⟩
    case rest =>
     clear HC26
     try clear c1
     try clear c2
     try clear p2
     try clear c5
     try clear c5b0
     try clear c7
     try clear c8
     try clear c8b0
     try clear c12
     try clear c12b0
     try clear c16
     try clear c16b0
     try clear c25
     try clear c27
     try clear c27b0
     try clear c27b1
     try clear hcz11_0
     try clear hcz11_1
     try clear hcz11_2
     try clear hcz11_3
     try clear hcz11_4
     try clear hcz11_5
     try clear hcz13_0
     try clear hcz13_1
     try clear hcz13_2
     try clear hcz13_3
     try clear hcz13_4
     try clear hcz13_5
     try clear hcz15_0
     try clear hcz15_1
     try clear hcz15_2
     try clear hcz15_3
     try clear hcz15_4
     try clear hcz15_5
     try clear hcz17_0
     try clear hcz17_1
     try clear hcz17_2
     try clear hcz17_3
     try clear hcz17_4
     try clear hcz17_5
     try clear hcz19_0
     try clear hcz19_1
     try clear hcz19_2
     try clear hcz19_3
     try clear hcz19_4
     try clear hcz19_5
     try clear hcz20_0
     try clear hcz20_1
     try clear hcz20_2
     try clear hcz20_3
     try clear hcz20_4
     try clear hcz20_5
     try clear hcz22_0
     try clear hcz22_1
     try clear hcz22_2
     try clear hcz22_3
     try clear hcz22_4
     try clear hcz22_5
     try clear hcz23_0
     try clear hcz23_1
     try clear hcz23_2
     try clear hcz23_3
     try clear hcz23_4
     try clear hcz23_5
     try clear hcz28_0
     try clear hcz28_1
     try clear hcz28_2
     try clear hcz28_3
     try clear hcz28_4
     try clear hcz28_5
     try clear hcz29_0
     try clear hcz29_1
     try clear hcz29_2
     try clear hcz29_3
     try clear hcz29_4
     try clear hcz29_5
     try clear hcz9_0
     try clear hcz9_1
     try clear hcz9_2
     try clear hcz9_3
     try clear hcz9_4
     try clear hcz9_5
     try clear hfz11_0
     try clear hfz11_1
     try clear hfz11_2
     try clear hfz11_3
     try clear hfz11_4
     try clear hfz11_5
     try clear hfz13_0
     try clear hfz13_1
     try clear hfz13_2
     try clear hfz13_3
     try clear hfz13_4
     try clear hfz13_5
     try clear hfz15_0
     try clear hfz15_1
     try clear hfz15_2
     try clear hfz15_3
     try clear hfz15_4
     try clear hfz15_5
     try clear hfz17_0
     try clear hfz17_1
     try clear hfz17_2
     try clear hfz17_3
     try clear hfz17_4
     try clear hfz17_5
     try clear hfz19_0
     try clear hfz19_1
     try clear hfz19_2
     try clear hfz19_3
     try clear hfz19_4
     try clear hfz19_5
     try clear hfz20_0
     try clear hfz20_1
     try clear hfz20_2
     try clear hfz20_3
     try clear hfz20_4
     try clear hfz20_5
     try clear hfz22_0
     try clear hfz22_1
     try clear hfz22_2
     try clear hfz22_3
     try clear hfz22_4
     try clear hfz22_5
     try clear hfz23_0
     try clear hfz23_1
     try clear hfz23_2
     try clear hfz23_3
     try clear hfz23_4
     try clear hfz23_5
     try clear hfz28_0
     try clear hfz28_1
     try clear hfz28_2
     try clear hfz28_3
     try clear hfz28_4
     try clear hfz28_5
     try clear hfz29_0
     try clear hfz29_1
     try clear hfz29_2
     try clear hfz29_3
     try clear hfz29_4
     try clear hfz29_5
     try clear hfz9_0
     try clear hfz9_1
     try clear hfz9_2
     try clear hfz9_3
     try clear hfz9_4
     try clear hfz9_5
     try clear p2
     obtain ⟨kq, x45_25, rfl, HA, HJ25, BK192, HB⟩ := hcut
     cases kq with
     | zero => exact absurd HA.out (by simp [hogsheadref15_may.j1])
     | succ kj25 =>
      have H := HA.out
      clear HA
      simp only [hogsheadref15_may.j1] at H
      by_cases c30 : x45_25 = true
      ·subst c30
       have H1 : (some false) = some r := by rw [if_pos rfl] at H; exact H
       clear H
       have H := H1
       clear H1
       obtain rfl := Option.some.inj H
       go_wp2
       repeat (go_quiet (fail); try go_wp2)
       go_ret
       exact ⟨by first | rfl | (simp [qAl, qAk] <;> rfl) | (simp [*, qAl, qAk] <;> rfl), by repeat (first | (with_reducible first | exact HB.out | apply qAd | apply qAc | apply qAe | refine qAf ?_ GE192.out) | exact HB.out)⟩
      ·replace c30 := Bool.eq_false_iff.mpr c30
       subst c30
       have H1 : (hogsheadref15_may.l0 kj25 a1 1 a0_0 a0_1 a0_2 a0_3 l0_4 l0_5) = some r := by rw [if_neg (show ¬ (false = true) by decide)] at H; exact H
       clear H
       have H := H1
       clear H1
       have H' := Aside0.mk H
       clear H
       go_wp2
       repeat (go_quiet (fail); try go_wp2)
       go_loopg [5] kj25 (fun kq v5 w' => ∃ (x5_3 : Int), v5 = .int .i64 x5_3 ∧ Aside0 (hogsheadref15_may.l0 kq a1 x5_3 a0_0 a0_1 a0_2 a0_3 l0_4 l0_5 = some r) ∧ Aside0 (kq ≤ kj25) ∧ Aside0 (w'.heap[gb192]? = some (.cells #[.int .i64 a0_0, .bool a0_1, .int .i64 a0_2, .string a0_3, (.slice A0_4 l0_4.length c0_4), (.slice A0_5 l0_5.length c0_5)] 25 (0, 0))) ∧ Aside0 (Below w.heap.size w w'))
       case atStart => exact ⟨(1), (by first | rfl | (simp; done) | (simp [*]; done) | exact congrArg Value.bool (nil_ne _) | exact congrArg Value.bool (nil_eq _) | exact congrArg Value.bool (nil_ne' _)), H', ⟨Nat.le_refl _⟩, ⟨by (with_reducible repeat (first | refine qAg ?_ _ | refine qAi ?_ | refine blk_alloc ?_ _)); exact BK192.out⟩, ⟨by repeat (first | (with_reducible first | exact HB.out | apply qAd | apply qAc | apply qAe | refine qAf ?_ GE192.out) | exact HB.out)⟩⟩
       case round =>
        clear H'
        try clear c1
        try clear c2
        try clear p2
        try clear c3
        try clear c5
        try clear c5b0
        try clear c7
        try clear c8
        try clear c8b0
        try clear c12
        try clear c12b0
        try clear c16
        try clear c16b0
        try clear c25
        try clear c27
        try clear c27b0
        try clear c27b1
        try clear c30
        try clear hcz11_0
        try clear hcz11_1
        try clear hcz11_2
        try clear hcz11_3
        try clear hcz11_4
        try clear hcz11_5
        try clear hcz13_0
        try clear hcz13_1
        try clear hcz13_2
        try clear hcz13_3
        try clear hcz13_4
        try clear hcz13_5
        try clear hcz15_0
        try clear hcz15_1
        try clear hcz15_2
        try clear hcz15_3
        try clear hcz15_4
        try clear hcz15_5
        try clear hcz17_0
        try clear hcz17_1
        try clear hcz17_2
        try clear hcz17_3
        try clear hcz17_4
        try clear hcz17_5
        try clear hcz19_0
        try clear hcz19_1
        try clear hcz19_2
        try clear hcz19_3
        try clear hcz19_4
        try clear hcz19_5
        try clear hcz20_0
        try clear hcz20_1
        try clear hcz20_2
        try clear hcz20_3
        try clear hcz20_4
        try clear hcz20_5
        try clear hcz22_0
        try clear hcz22_1
        try clear hcz22_2
        try clear hcz22_3
        try clear hcz22_4
        try clear hcz22_5
        try clear hcz23_0
        try clear hcz23_1
        try clear hcz23_2
        try clear hcz23_3
        try clear hcz23_4
        try clear hcz23_5
        try clear hcz28_0
        try clear hcz28_1
        try clear hcz28_2
        try clear hcz28_3
        try clear hcz28_4
        try clear hcz28_5
        try clear hcz29_0
        try clear hcz29_1
        try clear hcz29_2
        try clear hcz29_3
        try clear hcz29_4
        try clear hcz29_5
        try clear hcz9_0
        try clear hcz9_1
        try clear hcz9_2
        try clear hcz9_3
        try clear hcz9_4
        try clear hcz9_5
        try clear hfz11_0
        try clear hfz11_1
        try clear hfz11_2
        try clear hfz11_3
        try clear hfz11_4
        try clear hfz11_5
        try clear hfz13_0
        try clear hfz13_1
        try clear hfz13_2
        try clear hfz13_3
        try clear hfz13_4
        try clear hfz13_5
        try clear hfz15_0
        try clear hfz15_1
        try clear hfz15_2
        try clear hfz15_3
        try clear hfz15_4
        try clear hfz15_5
        try clear hfz17_0
        try clear hfz17_1
        try clear hfz17_2
        try clear hfz17_3
        try clear hfz17_4
        try clear hfz17_5
        try clear hfz19_0
        try clear hfz19_1
        try clear hfz19_2
        try clear hfz19_3
        try clear hfz19_4
        try clear hfz19_5
        try clear hfz20_0
        try clear hfz20_1
        try clear hfz20_2
        try clear hfz20_3
        try clear hfz20_4
        try clear hfz20_5
        try clear hfz22_0
        try clear hfz22_1
        try clear hfz22_2
        try clear hfz22_3
        try clear hfz22_4
        try clear hfz22_5
        try clear hfz23_0
        try clear hfz23_1
        try clear hfz23_2
        try clear hfz23_3
        try clear hfz23_4
        try clear hfz23_5
        try clear hfz28_0
        try clear hfz28_1
        try clear hfz28_2
        try clear hfz28_3
        try clear hfz28_4
        try clear hfz28_5
        try clear hfz29_0
        try clear hfz29_1
        try clear hfz29_2
        try clear hfz29_3
        try clear hfz29_4
        try clear hfz29_5
        try clear hfz9_0
        try clear hfz9_1
        try clear hfz9_2
        try clear hfz9_3
        try clear hfz9_4
        try clear hfz9_5
        try clear p2
        obtain ⟨x5_3, rfl, HA, HK3, BK192, HB⟩ := hrel
        cases gk with
        | zero => exact absurd HA.out (by simp [hogsheadref15_may.l0])
        | succ k3 =>
         have H := HA.out
         clear HA
         simp only [hogsheadref15_may.l0] at H
         by_cases c31 : x5_3 < (l0_5.length : Int)
         ·rw [if_pos c31] at H
          have c31b0 : decide (x5_3 < (l0_5.length : Int)) = true := decide_eq_true c31
          clear c31
          obtain ⟨ji32, hji32⟩ : ∃ j_ : Int, (wrap64 (x5_3 - 1)) = j_ := ⟨_, rfl⟩
          replace H : (if 0 ≤ (ji32) then (if (ji32) < (l0_5.length : Int) then (if 0 ≤ x5_3 then (if ((Op.bytesLess ((rdOf ByteArray.empty l0_5 (ji32)).toList) ((rdOf ByteArray.empty l0_5 x5_3).toList)) = true) then (hogsheadref15_may.l0 k3 a1 (wrap64 (x5_3 + 1)) a0_0 a0_1 a0_2 a0_3 l0_4 l0_5) else (some false)) else (none)) else (none)) else (none)) = some r := by first | (rw [hji32] at H; exact H) | (simp only [hji32] at H ⊢; exact H)
          have hji32w : (IntKind.i64.wrap (x5_3 - 1)) = ji32 := (i64_w _).trans hji32
          by_cases c33 : 0 ≤ (ji32)
          ·rw [if_pos c33] at H
           have c33b0 : decide (0 ≤ (ji32)) = true := decide_eq_true c33
           clear c33
           by_cases c34 : (ji32) < (l0_5.length : Int)
           ·rw [if_pos c34] at H
            have c34b0 : decide ((ji32) < (l0_5.length : Int)) = true := decide_eq_true c34
            clear c34
            by_cases c35 : 0 ≤ x5_3
            ·rw [if_pos c35] at H
             have c35b0 : decide (0 ≤ x5_3) = true := decide_eq_true c35
             clear c35
             by_cases c36 : ((Op.bytesLess ((rdOf ByteArray.empty l0_5 (ji32)).toList) ((rdOf ByteArray.empty l0_5 x5_3).toList)) = true)
             ·rw [if_pos c36] at H
              have c36b0 : (Op.bytesLess ((rdOf ByteArray.empty l0_5 (ji32)).toList) ((rdOf ByteArray.empty l0_5 x5_3).toList)) = true := c36
              clear c36
              have H' := Aside0.mk H
              clear H
              have hcz37_0 : wr.cell? ⟨gb192, 0, none⟩ = some (.int .i64 a0_0) := (qAb BK192.out 0).trans rfl
              have hcz37_1 : wr.cell? ⟨gb192, 1, none⟩ = some (.bool a0_1) := (qAb BK192.out 1).trans rfl
              have hcz37_2 : wr.cell? ⟨gb192, 2, none⟩ = some (.int .i64 a0_2) := (qAb BK192.out 2).trans rfl
              have hcz37_3 : wr.cell? ⟨gb192, 3, none⟩ = some (.string a0_3) := (qAb BK192.out 3).trans rfl
              have hcz37_4 : wr.cell? ⟨gb192, 4, none⟩ = some (.slice A0_4 l0_4.length c0_4) := (qAb BK192.out 4).trans rfl
              have hcz37_5 : wr.cell? ⟨gb192, 5, none⟩ = some (.slice A0_5 l0_5.length c0_5) := (qAb BK192.out 5).trans rfl
              have hfz37_0 := qAa BK192.out 0
              have hfz37_1 := qAa BK192.out 1
              have hfz37_2 := qAa BK192.out 2
              have hfz37_3 := qAa BK192.out 3
              have hfz37_4 := qAa BK192.out 4
              have hfz37_5 := qAa BK192.out 5
              have p194 : 0 ≤ ((ji32) : Int) := of_decide_eq_true (by first | (with_reducible assumption) | assumption)
              have q194 : (ji32) < (l0_5.length : Int) := of_decide_eq_true (by first | (with_reducible assumption) | assumption)
              obtain ⟨ad194, e194, hx194_0⟩ := Kd.at_string HR0_5.out (ji32) p194 q194
              cases e194
              replace hx194_0 := (HB.out.cell (World.block_lt_of_cell? w _ hx194_0)).trans hx194_0
              replace p194 := eq_true p194
              replace q194 := eq_true q194
              have p195 : 0 ≤ (x5_3 : Int) := of_decide_eq_true (by first | (with_reducible assumption) | assumption)
              have q195 : x5_3 < (l0_5.length : Int) := of_decide_eq_true (by first | (with_reducible assumption) | assumption)
              obtain ⟨ad195, e195, hx195_0⟩ := Kd.at_string HR0_5.out x5_3 p195 q195
              obtain rfl : ad194 = ad195 := (by injection e195)
              replace hx195_0 := (HB.out.cell (World.block_lt_of_cell? w _ hx195_0)).trans hx195_0
              replace p195 := eq_true p195
              replace q195 := eq_true q195
              go_wp2
              repeat (go_quiet (fail); try go_wp2)
              go_roundg k3
              case measure => have := HJ2.out; have := HJ25.out; have := HK3.out; omega
              case rel => exact ⟨(wrap64 (x5_3 + 1)), (by first | rfl | (simp; done) | (simp [*]; done) | exact congrArg Value.bool (nil_ne _) | exact congrArg Value.bool (nil_eq _) | exact congrArg Value.bool (nil_ne' _)), H', ⟨by have := HJ2.out; have := HJ25.out; have := HK3.out; omega⟩, ⟨by (with_reducible repeat (first | refine qAg ?_ _ | refine qAi ?_ | refine blk_alloc ?_ _)); exact BK192.out⟩, ⟨by repeat (first | (with_reducible first | exact HB.out | apply qAd | apply qAc | apply qAe | refine qAf ?_ GE192.out) | exact HB.out)⟩⟩
             ·rw [if_neg c36] at H
              have c36b0 : (Op.bytesLess ((rdOf ByteArray.empty l0_5 (ji32)).toList) ((rdOf ByteArray.empty l0_5 x5_3).toList)) = false := by simpa using c36
              clear c36
              obtain rfl := Option.some.inj H
              have hcz38_0 : wr.cell? ⟨gb192, 0, none⟩ = some (.int .i64 a0_0) := (qAb BK192.out 0).trans rfl
              have hcz38_1 : wr.cell? ⟨gb192, 1, none⟩ = some (.bool a0_1) := (qAb BK192.out 1).trans rfl
              have hcz38_2 : wr.cell? ⟨gb192, 2, none⟩ = some (.int .i64 a0_2) := (qAb BK192.out 2).trans rfl
              have hcz38_3 : wr.cell? ⟨gb192, 3, none⟩ = some (.string a0_3) := (qAb BK192.out 3).trans rfl
              have hcz38_4 : wr.cell? ⟨gb192, 4, none⟩ = some (.slice A0_4 l0_4.length c0_4) := (qAb BK192.out 4).trans rfl
              have hcz38_5 : wr.cell? ⟨gb192, 5, none⟩ = some (.slice A0_5 l0_5.length c0_5) := (qAb BK192.out 5).trans rfl
              have hfz38_0 := qAa BK192.out 0
              have hfz38_1 := qAa BK192.out 1
              have hfz38_2 := qAa BK192.out 2
              have hfz38_3 := qAa BK192.out 3
              have hfz38_4 := qAa BK192.out 4
              have hfz38_5 := qAa BK192.out 5
              have p194 : 0 ≤ ((ji32) : Int) := of_decide_eq_true (by first | (with_reducible assumption) | assumption)
              have q194 : (ji32) < (l0_5.length : Int) := of_decide_eq_true (by first | (with_reducible assumption) | assumption)
              obtain ⟨ad194, e194, hx194_0⟩ := Kd.at_string HR0_5.out (ji32) p194 q194
              cases e194
              replace hx194_0 := (HB.out.cell (World.block_lt_of_cell? w _ hx194_0)).trans hx194_0
              replace p194 := eq_true p194
              replace q194 := eq_true q194
              have p195 : 0 ≤ (x5_3 : Int) := of_decide_eq_true (by first | (with_reducible assumption) | assumption)
              have q195 : x5_3 < (l0_5.length : Int) := of_decide_eq_true (by first | (with_reducible assumption) | assumption)
              obtain ⟨ad195, e195, hx195_0⟩ := Kd.at_string HR0_5.out x5_3 p195 q195
              obtain rfl : ad194 = ad195 := (by injection e195)
              replace hx195_0 := (HB.out.cell (World.block_lt_of_cell? w _ hx195_0)).trans hx195_0
              replace p195 := eq_true p195
              replace q195 := eq_true q195
              go_wp2
              repeat (go_quiet (fail); try go_wp2)
              go_ret
              exact ⟨by first | rfl | (simp [qAl, qAk] <;> rfl) | (simp only [← hji32]; first | rfl | (simp [qAl, qAk] <;> rfl)) | (simp [*, qAl, qAk] <;> rfl), by repeat (first | (with_reducible first | exact HB.out | apply qAd | apply qAc | apply qAe | refine qAf ?_ GE192.out) | exact HB.out)⟩
            ·rw [if_neg c35] at H
             exact absurd H (by simp)
           ·rw [if_neg c34] at H
            exact absurd H (by simp)
          ·rw [if_neg c33] at H
           exact absurd H (by simp)
         ·rw [if_neg c31] at H
          have c31b0 : decide (x5_3 < (l0_5.length : Int)) = false := decide_eq_false c31
          clear c31
          have H' := Aside0.mk H
          clear H
          have hcz39_0 : wr.cell? ⟨gb192, 0, none⟩ = some (.int .i64 a0_0) := (qAb BK192.out 0).trans rfl
          have hcz39_1 : wr.cell? ⟨gb192, 1, none⟩ = some (.bool a0_1) := (qAb BK192.out 1).trans rfl
          have hcz39_2 : wr.cell? ⟨gb192, 2, none⟩ = some (.int .i64 a0_2) := (qAb BK192.out 2).trans rfl
          have hcz39_3 : wr.cell? ⟨gb192, 3, none⟩ = some (.string a0_3) := (qAb BK192.out 3).trans rfl
          have hcz39_4 : wr.cell? ⟨gb192, 4, none⟩ = some (.slice A0_4 l0_4.length c0_4) := (qAb BK192.out 4).trans rfl
          have hcz39_5 : wr.cell? ⟨gb192, 5, none⟩ = some (.slice A0_5 l0_5.length c0_5) := (qAb BK192.out 5).trans rfl
          have hfz39_0 := qAa BK192.out 0
          have hfz39_1 := qAa BK192.out 1
          have hfz39_2 := qAa BK192.out 2
          have hfz39_3 := qAa BK192.out 3
          have hfz39_4 := qAa BK192.out 4
          have hfz39_5 := qAa BK192.out 5
          go_wp2
          repeat (go_quiet (fail); try go_wp2)
          go_loopg [6] k3 (fun kq v6 w' => ∃ (x6_4 : Int), v6 = .int .i64 x6_4 ∧ Aside0 (hogsheadref15_may.l1 kq a1 x6_4 a0_0 a0_1 a0_2 a0_3 l0_4 l0_5 = some r) ∧ Aside0 (kq ≤ k3) ∧ Aside0 (w'.heap[gb192]? = some (.cells #[.int .i64 a0_0, .bool a0_1, .int .i64 a0_2, .string a0_3, (.slice A0_4 l0_4.length c0_4), (.slice A0_5 l0_5.length c0_5)] 25 (0, 0))) ∧ Aside0 (Below w.heap.size w w'))
          case atStart => exact ⟨(0), (by first | rfl | (simp; done) | (simp [*]; done) | exact congrArg Value.bool (nil_ne _) | exact congrArg Value.bool (nil_eq _) | exact congrArg Value.bool (nil_ne' _)), H', ⟨Nat.le_refl _⟩, ⟨by (with_reducible repeat (first | refine qAg ?_ _ | refine qAi ?_ | refine blk_alloc ?_ _)); exact BK192.out⟩, ⟨by repeat (first | (with_reducible first | exact HB.out | apply qAd | apply qAc | apply qAe | refine qAf ?_ GE192.out) | exact HB.out)⟩⟩
          case round =>
           clear H'
           try clear c1
           try clear p1
           try clear q1
           try clear hx1
           try clear c2
           try clear p2
           try clear c3
           try clear c5
           try clear c5b0
           try clear p6
           try clear c7
           try clear c8
           try clear c8b0
           try clear c12
           try clear c12b0
           try clear c16
           try clear c16b0
           try clear p19
           try clear q19
           try clear hx19
           try clear c25
           try clear c27
           try clear c27b0
           try clear c27b1
           try clear c30
           try clear c31
           try clear c31b0
           try clear c33
           try clear c33b0
           try clear c34
           try clear c34b0
           try clear c35
           try clear c35b0
           try clear c36
           try clear c36b0
           try clear hcz11_0
           try clear hcz11_1
           try clear hcz11_2
           try clear hcz11_3
           try clear hcz11_4
           try clear hcz11_5
           try clear hcz13_0
           try clear hcz13_1
           try clear hcz13_2
           try clear hcz13_3
           try clear hcz13_4
           try clear hcz13_5
           try clear hcz15_0
           try clear hcz15_1
           try clear hcz15_2
           try clear hcz15_3
           try clear hcz15_4
           try clear hcz15_5
           try clear hcz17_0
           try clear hcz17_1
           try clear hcz17_2
           try clear hcz17_3
           try clear hcz17_4
           try clear hcz17_5
           try clear hcz19_0
           try clear hcz19_1
           try clear hcz19_2
           try clear hcz19_3
           try clear hcz19_4
           try clear hcz19_5
           try clear hcz20_0
           try clear hcz20_1
           try clear hcz20_2
           try clear hcz20_3
           try clear hcz20_4
           try clear hcz20_5
           try clear hcz22_0
           try clear hcz22_1
           try clear hcz22_2
           try clear hcz22_3
           try clear hcz22_4
           try clear hcz22_5
           try clear hcz23_0
           try clear hcz23_1
           try clear hcz23_2
           try clear hcz23_3
           try clear hcz23_4
           try clear hcz23_5
           try clear hcz28_0
           try clear hcz28_1
           try clear hcz28_2
           try clear hcz28_3
           try clear hcz28_4
           try clear hcz28_5
           try clear hcz29_0
           try clear hcz29_1
           try clear hcz29_2
           try clear hcz29_3
           try clear hcz29_4
           try clear hcz29_5
           try clear hcz37_0
           try clear hcz37_1
           try clear hcz37_2
           try clear hcz37_3
           try clear hcz37_4
           try clear hcz37_5
           try clear hcz38_0
           try clear hcz38_1
           try clear hcz38_2
           try clear hcz38_3
           try clear hcz38_4
           try clear hcz38_5
           try clear hcz39_0
           try clear hcz39_1
           try clear hcz39_2
           try clear hcz39_3
           try clear hcz39_4
           try clear hcz39_5
           try clear hcz9_0
           try clear hcz9_1
           try clear hcz9_2
           try clear hcz9_3
           try clear hcz9_4
           try clear hcz9_5
           try clear hfz11_0
           try clear hfz11_1
           try clear hfz11_2
           try clear hfz11_3
           try clear hfz11_4
           try clear hfz11_5
           try clear hfz13_0
           try clear hfz13_1
           try clear hfz13_2
           try clear hfz13_3
           try clear hfz13_4
           try clear hfz13_5
           try clear hfz15_0
           try clear hfz15_1
           try clear hfz15_2
           try clear hfz15_3
           try clear hfz15_4
           try clear hfz15_5
           try clear hfz17_0
           try clear hfz17_1
           try clear hfz17_2
           try clear hfz17_3
           try clear hfz17_4
           try clear hfz17_5
           try clear hfz19_0
           try clear hfz19_1
           try clear hfz19_2
           try clear hfz19_3
           try clear hfz19_4
           try clear hfz19_5
           try clear hfz20_0
           try clear hfz20_1
           try clear hfz20_2
           try clear hfz20_3
           try clear hfz20_4
           try clear hfz20_5
           try clear hfz22_0
           try clear hfz22_1
           try clear hfz22_2
           try clear hfz22_3
           try clear hfz22_4
           try clear hfz22_5
           try clear hfz23_0
           try clear hfz23_1
           try clear hfz23_2
           try clear hfz23_3
           try clear hfz23_4
           try clear hfz23_5
           try clear hfz28_0
           try clear hfz28_1
           try clear hfz28_2
           try clear hfz28_3
           try clear hfz28_4
           try clear hfz28_5
           try clear hfz29_0
           try clear hfz29_1
           try clear hfz29_2
           try clear hfz29_3
           try clear hfz29_4
           try clear hfz29_5
           try clear hfz37_0
           try clear hfz37_1
           try clear hfz37_2
           try clear hfz37_3
           try clear hfz37_4
           try clear hfz37_5
           try clear hfz38_0
           try clear hfz38_1
           try clear hfz38_2
           try clear hfz38_3
           try clear hfz38_4
           try clear hfz38_5
           try clear hfz39_0
           try clear hfz39_1
           try clear hfz39_2
           try clear hfz39_3
           try clear hfz39_4
           try clear hfz39_5
           try clear hfz9_0
           try clear hfz9_1
           try clear hfz9_2
           try clear hfz9_3
           try clear hfz9_4
           try clear hfz9_5
           try clear hx194_0
           try clear hx195_0
           try clear p194
           try clear p195
           try clear p2
           try clear q194
           try clear q195
           obtain ⟨x6_4, rfl, HA, HK4, BK192, HB⟩ := hrel
           cases gk with
           | zero => exact absurd HA.out (by simp [hogsheadref15_may.l1])
           | succ k4 =>
            have H := HA.out
            clear HA
            simp only [hogsheadref15_may.l1] at H
            by_cases c40 : x6_4 < (l0_4.length : Int)
            ·rw [if_pos c40] at H
             have c40b0 : decide (x6_4 < (l0_4.length : Int)) = true := decide_eq_true c40
             clear c40
             by_cases c41 : 0 ≤ x6_4
             ·rw [if_pos c41] at H
              have c41b0 : decide (0 ≤ x6_4) = true := decide_eq_true c41
              clear c41
              replace H := Option.bind_eq_some_iff.mp H
              obtain ⟨t197, A420, H⟩ := H
              replace H : (if t197 = true then (hogsheadref15_may.l1 k4 a1 (wrap64 (x6_4 + 1)) a0_0 a0_1 a0_2 a0_3 l0_4 l0_5) else (some false)) = some r := H
              have A42 := Aside0.mk A420
              clear A420
              by_cases c43 : t197 = true
              ·subst c43
               have H1 : (hogsheadref15_may.l1 k4 a1 (wrap64 (x6_4 + 1)) a0_0 a0_1 a0_2 a0_3 l0_4 l0_5) = some r := by rw [if_pos rfl] at H; exact H
               clear H
               have H := H1
               clear H1
               have H' := Aside0.mk H
               clear H
               have hcz44_0 : wr.cell? ⟨gb192, 0, none⟩ = some (.int .i64 a0_0) := (qAb BK192.out 0).trans rfl
               have hcz44_1 : wr.cell? ⟨gb192, 1, none⟩ = some (.bool a0_1) := (qAb BK192.out 1).trans rfl
               have hcz44_2 : wr.cell? ⟨gb192, 2, none⟩ = some (.int .i64 a0_2) := (qAb BK192.out 2).trans rfl
               have hcz44_3 : wr.cell? ⟨gb192, 3, none⟩ = some (.string a0_3) := (qAb BK192.out 3).trans rfl
               have hcz44_4 : wr.cell? ⟨gb192, 4, none⟩ = some (.slice A0_4 l0_4.length c0_4) := (qAb BK192.out 4).trans rfl
               have hcz44_5 : wr.cell? ⟨gb192, 5, none⟩ = some (.slice A0_5 l0_5.length c0_5) := (qAb BK192.out 5).trans rfl
               have hfz44_0 := qAa BK192.out 0
               have hfz44_1 := qAa BK192.out 1
               have hfz44_2 := qAa BK192.out 2
               have hfz44_3 := qAa BK192.out 3
               have hfz44_4 := qAa BK192.out 4
               have hfz44_5 := qAa BK192.out 5
               have p196 : 0 ≤ (x6_4 : Int) := of_decide_eq_true (by first | (with_reducible assumption) | assumption)
               have q196 : x6_4 < (l0_4.length : Int) := of_decide_eq_true (by first | (with_reducible assumption) | assumption)
               obtain ⟨ad196, A196_4, c196_4, A196_5, c196_5, e196, hx196_0, hx196_1, hx196_2, hx196_3, hx196_4, hx196_5, hl196_4, hi196_4, hl196_5, hi196_5⟩ := at_T25 HR0_4.out x6_4 p196 q196
               cases e196
               replace hx196_0 := (HB.out.cell (World.block_lt_of_cell? w _ hx196_0)).trans hx196_0
               replace hx196_1 := (HB.out.cell (World.block_lt_of_cell? w _ hx196_1)).trans hx196_1
               replace hx196_2 := (HB.out.cell (World.block_lt_of_cell? w _ hx196_2)).trans hx196_2
               replace hx196_3 := (HB.out.cell (World.block_lt_of_cell? w _ hx196_3)).trans hx196_3
               replace hx196_4 := (HB.out.cell (World.block_lt_of_cell? w _ hx196_4)).trans hx196_4
               replace hx196_5 := (HB.out.cell (World.block_lt_of_cell? w _ hx196_5)).trans hx196_5
               have HR196_4 := Aside0.mk hi196_4
               have HC196_4 := Aside0.mk hl196_4
               clear hi196_4 hl196_4
               have HR196_5 := Aside0.mk hi196_5
               have HC196_5 := Aside0.mk hl196_5
               clear hi196_5 hl196_5
               replace p196 := eq_true p196
               replace q196 := eq_true q196
               go_wp2_with (first | (go_at_call 53; (with_reducible refine (ih k4 (by have := HJ2.out; have := HJ25.out; have := HK3.out; have := HK4.out; omega) ((rd_T25 l0_4 x6_4).f0) ((rd_T25 l0_4 x6_4).f1) ((rd_T25 l0_4 x6_4).f2) ((rd_T25 l0_4 x6_4).f3) _ _ ((rd_T25 l0_4 x6_4).f4) _ _ ((rd_T25 l0_4 x6_4).f5) (wrap64 (a1 - 1)) true _ ?side1 ?side2 ?side3 ?side4 A42.out).mono ?_); (case side1 => repeat (first | exact (Kd.C_below HR196_4.out HB.out) | (with_reducible refine Kd.C_alloc ?_ _) | (with_reducible refine Kd.C_drewN ?_ _) | (with_reducible refine Kd.C_drew ?_))); (case side2 => exact HC196_4.out); (case side3 => repeat (first | exact (Kd.C_below HR196_5.out HB.out) | (with_reducible refine Kd.C_alloc ?_ _) | (with_reducible refine Kd.C_drewN ?_ _) | (with_reducible refine Kd.C_drew ?_))); (case side4 => exact HC196_5.out); rintro e w45 ⟨rfl, hb⟩; have n0_ := Aside0.mk (qAm (g := gb192) (o := .cells #[.int .i64 a0_0, .bool a0_1, .int .i64 a0_2, .string a0_3, .slice (some ad196) l0_4.length c0_4, .slice A0_5 l0_5.length c0_5] 25 (0, 0)) (by (with_reducible repeat (first | refine qAg ?_ _ | refine qAi ?_ | refine blk_alloc ?_ _)); exact BK192.out) hb); have n1_ := Aside0.mk (qAj (by repeat (first | (with_reducible first | exact HB.out | apply qAd | apply qAc | apply qAe | refine qAf ?_ GE192.out) | exact HB.out)) hb); clear BK192; clear HB; have BK192 := n0_; have HB := n1_; clear n0_ n1_; (try clear hb); (try clear hb2); (try clear hk); (try clear hi)))
               repeat (go_quiet (first | (go_at_call 53; (with_reducible refine (ih k4 (by have := HJ2.out; have := HJ25.out; have := HK3.out; have := HK4.out; omega) ((rd_T25 l0_4 x6_4).f0) ((rd_T25 l0_4 x6_4).f1) ((rd_T25 l0_4 x6_4).f2) ((rd_T25 l0_4 x6_4).f3) _ _ ((rd_T25 l0_4 x6_4).f4) _ _ ((rd_T25 l0_4 x6_4).f5) (wrap64 (a1 - 1)) true _ ?side1 ?side2 ?side3 ?side4 A42.out).mono ?_); (case side1 => repeat (first | exact (Kd.C_below HR196_4.out HB.out) | (with_reducible refine Kd.C_alloc ?_ _) | (with_reducible refine Kd.C_drewN ?_ _) | (with_reducible refine Kd.C_drew ?_))); (case side2 => exact HC196_4.out); (case side3 => repeat (first | exact (Kd.C_below HR196_5.out HB.out) | (with_reducible refine Kd.C_alloc ?_ _) | (with_reducible refine Kd.C_drewN ?_ _) | (with_reducible refine Kd.C_drew ?_))); (case side4 => exact HC196_5.out); rintro e w45 ⟨rfl, hb⟩; have n0_ := Aside0.mk (qAm (g := gb192) (o := .cells #[.int .i64 a0_0, .bool a0_1, .int .i64 a0_2, .string a0_3, .slice (some ad196) l0_4.length c0_4, .slice A0_5 l0_5.length c0_5] 25 (0, 0)) (by (with_reducible repeat (first | refine qAg ?_ _ | refine qAi ?_ | refine blk_alloc ?_ _)); exact BK192.out) hb); have n1_ := Aside0.mk (qAj (by repeat (first | (with_reducible first | exact HB.out | apply qAd | apply qAc | apply qAe | refine qAf ?_ GE192.out) | exact HB.out)) hb); clear BK192; clear HB; have BK192 := n0_; have HB := n1_; clear n0_ n1_; (try clear hb); (try clear hb2); (try clear hk); (try clear hi))); try go_wp2_with (first | (go_at_call 53; (with_reducible refine (ih k4 (by have := HJ2.out; have := HJ25.out; have := HK3.out; have := HK4.out; omega) ((rd_T25 l0_4 x6_4).f0) ((rd_T25 l0_4 x6_4).f1) ((rd_T25 l0_4 x6_4).f2) ((rd_T25 l0_4 x6_4).f3) _ _ ((rd_T25 l0_4 x6_4).f4) _ _ ((rd_T25 l0_4 x6_4).f5) (wrap64 (a1 - 1)) true _ ?side1 ?side2 ?side3 ?side4 A42.out).mono ?_); (case side1 => repeat (first | exact (Kd.C_below HR196_4.out HB.out) | (with_reducible refine Kd.C_alloc ?_ _) | (with_reducible refine Kd.C_drewN ?_ _) | (with_reducible refine Kd.C_drew ?_))); (case side2 => exact HC196_4.out); (case side3 => repeat (first | exact (Kd.C_below HR196_5.out HB.out) | (with_reducible refine Kd.C_alloc ?_ _) | (with_reducible refine Kd.C_drewN ?_ _) | (with_reducible refine Kd.C_drew ?_))); (case side4 => exact HC196_5.out); rintro e w45 ⟨rfl, hb⟩; have n0_ := Aside0.mk (qAm (g := gb192) (o := .cells #[.int .i64 a0_0, .bool a0_1, .int .i64 a0_2, .string a0_3, .slice (some ad196) l0_4.length c0_4, .slice A0_5 l0_5.length c0_5] 25 (0, 0)) (by (with_reducible repeat (first | refine qAg ?_ _ | refine qAi ?_ | refine blk_alloc ?_ _)); exact BK192.out) hb); have n1_ := Aside0.mk (qAj (by repeat (first | (with_reducible first | exact HB.out | apply qAd | apply qAc | apply qAe | refine qAf ?_ GE192.out) | exact HB.out)) hb); clear BK192; clear HB; have BK192 := n0_; have HB := n1_; clear n0_ n1_; (try clear hb); (try clear hb2); (try clear hk); (try clear hi))))
               go_roundg k4
               case measure => have := HJ2.out; have := HJ25.out; have := HK3.out; have := HK4.out; omega
               case rel => exact ⟨(wrap64 (x6_4 + 1)), (by first | rfl | (simp; done) | (simp [*]; done) | exact congrArg Value.bool (nil_ne _) | exact congrArg Value.bool (nil_eq _) | exact congrArg Value.bool (nil_ne' _)), H', ⟨by have := HJ2.out; have := HJ25.out; have := HK3.out; have := HK4.out; omega⟩, ⟨by (with_reducible repeat (first | refine qAg ?_ _ | refine qAi ?_ | refine blk_alloc ?_ _)); exact BK192.out⟩, ⟨by repeat (first | (with_reducible first | exact HB.out | apply qAd | apply qAc | apply qAe | refine qAf ?_ GE192.out) | exact HB.out)⟩⟩
              ·replace c43 := Bool.eq_false_iff.mpr c43
               subst c43
               have H1 : (some false) = some r := by rw [if_neg (show ¬ (false = true) by decide)] at H; exact H
               clear H
               have H := H1
               clear H1
               obtain rfl := Option.some.inj H
               have hcz46_0 : wr.cell? ⟨gb192, 0, none⟩ = some (.int .i64 a0_0) := (qAb BK192.out 0).trans rfl
               have hcz46_1 : wr.cell? ⟨gb192, 1, none⟩ = some (.bool a0_1) := (qAb BK192.out 1).trans rfl
               have hcz46_2 : wr.cell? ⟨gb192, 2, none⟩ = some (.int .i64 a0_2) := (qAb BK192.out 2).trans rfl
               have hcz46_3 : wr.cell? ⟨gb192, 3, none⟩ = some (.string a0_3) := (qAb BK192.out 3).trans rfl
               have hcz46_4 : wr.cell? ⟨gb192, 4, none⟩ = some (.slice A0_4 l0_4.length c0_4) := (qAb BK192.out 4).trans rfl
               have hcz46_5 : wr.cell? ⟨gb192, 5, none⟩ = some (.slice A0_5 l0_5.length c0_5) := (qAb BK192.out 5).trans rfl
               have hfz46_0 := qAa BK192.out 0
               have hfz46_1 := qAa BK192.out 1
               have hfz46_2 := qAa BK192.out 2
               have hfz46_3 := qAa BK192.out 3
               have hfz46_4 := qAa BK192.out 4
               have hfz46_5 := qAa BK192.out 5
               have p196 : 0 ≤ (x6_4 : Int) := of_decide_eq_true (by first | (with_reducible assumption) | assumption)
               have q196 : x6_4 < (l0_4.length : Int) := of_decide_eq_true (by first | (with_reducible assumption) | assumption)
               obtain ⟨ad196, A196_4, c196_4, A196_5, c196_5, e196, hx196_0, hx196_1, hx196_2, hx196_3, hx196_4, hx196_5, hl196_4, hi196_4, hl196_5, hi196_5⟩ := at_T25 HR0_4.out x6_4 p196 q196
               cases e196
               replace hx196_0 := (HB.out.cell (World.block_lt_of_cell? w _ hx196_0)).trans hx196_0
               replace hx196_1 := (HB.out.cell (World.block_lt_of_cell? w _ hx196_1)).trans hx196_1
               replace hx196_2 := (HB.out.cell (World.block_lt_of_cell? w _ hx196_2)).trans hx196_2
               replace hx196_3 := (HB.out.cell (World.block_lt_of_cell? w _ hx196_3)).trans hx196_3
               replace hx196_4 := (HB.out.cell (World.block_lt_of_cell? w _ hx196_4)).trans hx196_4
               replace hx196_5 := (HB.out.cell (World.block_lt_of_cell? w _ hx196_5)).trans hx196_5
               have HR196_4 := Aside0.mk hi196_4
               have HC196_4 := Aside0.mk hl196_4
               clear hi196_4 hl196_4
               have HR196_5 := Aside0.mk hi196_5
               have HC196_5 := Aside0.mk hl196_5
               clear hi196_5 hl196_5
               replace p196 := eq_true p196
               replace q196 := eq_true q196
               go_wp2_with (first | (go_at_call 53; (with_reducible refine (ih k4 (by have := HJ2.out; have := HJ25.out; have := HK3.out; have := HK4.out; omega) ((rd_T25 l0_4 x6_4).f0) ((rd_T25 l0_4 x6_4).f1) ((rd_T25 l0_4 x6_4).f2) ((rd_T25 l0_4 x6_4).f3) _ _ ((rd_T25 l0_4 x6_4).f4) _ _ ((rd_T25 l0_4 x6_4).f5) (wrap64 (a1 - 1)) false _ ?side1 ?side2 ?side3 ?side4 A42.out).mono ?_); (case side1 => repeat (first | exact (Kd.C_below HR196_4.out HB.out) | (with_reducible refine Kd.C_alloc ?_ _) | (with_reducible refine Kd.C_drewN ?_ _) | (with_reducible refine Kd.C_drew ?_))); (case side2 => exact HC196_4.out); (case side3 => repeat (first | exact (Kd.C_below HR196_5.out HB.out) | (with_reducible refine Kd.C_alloc ?_ _) | (with_reducible refine Kd.C_drewN ?_ _) | (with_reducible refine Kd.C_drew ?_))); (case side4 => exact HC196_5.out); rintro e w47 ⟨rfl, hb⟩; have n0_ := Aside0.mk (qAm (g := gb192) (o := .cells #[.int .i64 a0_0, .bool a0_1, .int .i64 a0_2, .string a0_3, .slice (some ad196) l0_4.length c0_4, .slice A0_5 l0_5.length c0_5] 25 (0, 0)) (by (with_reducible repeat (first | refine qAg ?_ _ | refine qAi ?_ | refine blk_alloc ?_ _)); exact BK192.out) hb); have n1_ := Aside0.mk (qAj (by repeat (first | (with_reducible first | exact HB.out | apply qAd | apply qAc | apply qAe | refine qAf ?_ GE192.out) | exact HB.out)) hb); clear BK192; clear HB; have BK192 := n0_; have HB := n1_; clear n0_ n1_; (try clear hb); (try clear hb2); (try clear hk); (try clear hi)))
               repeat (go_quiet (first | (go_at_call 53; (with_reducible refine (ih k4 (by have := HJ2.out; have := HJ25.out; have := HK3.out; have := HK4.out; omega) ((rd_T25 l0_4 x6_4).f0) ((rd_T25 l0_4 x6_4).f1) ((rd_T25 l0_4 x6_4).f2) ((rd_T25 l0_4 x6_4).f3) _ _ ((rd_T25 l0_4 x6_4).f4) _ _ ((rd_T25 l0_4 x6_4).f5) (wrap64 (a1 - 1)) false _ ?side1 ?side2 ?side3 ?side4 A42.out).mono ?_); (case side1 => repeat (first | exact (Kd.C_below HR196_4.out HB.out) | (with_reducible refine Kd.C_alloc ?_ _) | (with_reducible refine Kd.C_drewN ?_ _) | (with_reducible refine Kd.C_drew ?_))); (case side2 => exact HC196_4.out); (case side3 => repeat (first | exact (Kd.C_below HR196_5.out HB.out) | (with_reducible refine Kd.C_alloc ?_ _) | (with_reducible refine Kd.C_drewN ?_ _) | (with_reducible refine Kd.C_drew ?_))); (case side4 => exact HC196_5.out); rintro e w47 ⟨rfl, hb⟩; have n0_ := Aside0.mk (qAm (g := gb192) (o := .cells #[.int .i64 a0_0, .bool a0_1, .int .i64 a0_2, .string a0_3, .slice (some ad196) l0_4.length c0_4, .slice A0_5 l0_5.length c0_5] 25 (0, 0)) (by (with_reducible repeat (first | refine qAg ?_ _ | refine qAi ?_ | refine blk_alloc ?_ _)); exact BK192.out) hb); have n1_ := Aside0.mk (qAj (by repeat (first | (with_reducible first | exact HB.out | apply qAd | apply qAc | apply qAe | refine qAf ?_ GE192.out) | exact HB.out)) hb); clear BK192; clear HB; have BK192 := n0_; have HB := n1_; clear n0_ n1_; (try clear hb); (try clear hb2); (try clear hk); (try clear hi))); try go_wp2_with (first | (go_at_call 53; (with_reducible refine (ih k4 (by have := HJ2.out; have := HJ25.out; have := HK3.out; have := HK4.out; omega) ((rd_T25 l0_4 x6_4).f0) ((rd_T25 l0_4 x6_4).f1) ((rd_T25 l0_4 x6_4).f2) ((rd_T25 l0_4 x6_4).f3) _ _ ((rd_T25 l0_4 x6_4).f4) _ _ ((rd_T25 l0_4 x6_4).f5) (wrap64 (a1 - 1)) false _ ?side1 ?side2 ?side3 ?side4 A42.out).mono ?_); (case side1 => repeat (first | exact (Kd.C_below HR196_4.out HB.out) | (with_reducible refine Kd.C_alloc ?_ _) | (with_reducible refine Kd.C_drewN ?_ _) | (with_reducible refine Kd.C_drew ?_))); (case side2 => exact HC196_4.out); (case side3 => repeat (first | exact (Kd.C_below HR196_5.out HB.out) | (with_reducible refine Kd.C_alloc ?_ _) | (with_reducible refine Kd.C_drewN ?_ _) | (with_reducible refine Kd.C_drew ?_))); (case side4 => exact HC196_5.out); rintro e w47 ⟨rfl, hb⟩; have n0_ := Aside0.mk (qAm (g := gb192) (o := .cells #[.int .i64 a0_0, .bool a0_1, .int .i64 a0_2, .string a0_3, .slice (some ad196) l0_4.length c0_4, .slice A0_5 l0_5.length c0_5] 25 (0, 0)) (by (with_reducible repeat (first | refine qAg ?_ _ | refine qAi ?_ | refine blk_alloc ?_ _)); exact BK192.out) hb); have n1_ := Aside0.mk (qAj (by repeat (first | (with_reducible first | exact HB.out | apply qAd | apply qAc | apply qAe | refine qAf ?_ GE192.out) | exact HB.out)) hb); clear BK192; clear HB; have BK192 := n0_; have HB := n1_; clear n0_ n1_; (try clear hb); (try clear hb2); (try clear hk); (try clear hi))))
               go_ret
               exact ⟨by first | rfl | (simp [qAl, qAk] <;> rfl) | (simp [*, qAl, qAk] <;> rfl), by repeat (first | (with_reducible first | exact HB.out | apply qAd | apply qAc | apply qAe | refine qAf ?_ GE192.out) | exact HB.out)⟩
             ·rw [if_neg c41] at H
              exact absurd H (by simp)
            ·rw [if_neg c40] at H
             have c40b0 : decide (x6_4 < (l0_4.length : Int)) = false := decide_eq_false c40
             clear c40
             obtain rfl := Option.some.inj H
             have hcz48_0 : wr.cell? ⟨gb192, 0, none⟩ = some (.int .i64 a0_0) := (qAb BK192.out 0).trans rfl
             have hcz48_1 : wr.cell? ⟨gb192, 1, none⟩ = some (.bool a0_1) := (qAb BK192.out 1).trans rfl
             have hcz48_2 : wr.cell? ⟨gb192, 2, none⟩ = some (.int .i64 a0_2) := (qAb BK192.out 2).trans rfl
             have hcz48_3 : wr.cell? ⟨gb192, 3, none⟩ = some (.string a0_3) := (qAb BK192.out 3).trans rfl
             have hcz48_4 : wr.cell? ⟨gb192, 4, none⟩ = some (.slice A0_4 l0_4.length c0_4) := (qAb BK192.out 4).trans rfl
             have hcz48_5 : wr.cell? ⟨gb192, 5, none⟩ = some (.slice A0_5 l0_5.length c0_5) := (qAb BK192.out 5).trans rfl
             have hfz48_0 := qAa BK192.out 0
             have hfz48_1 := qAa BK192.out 1
             have hfz48_2 := qAa BK192.out 2
             have hfz48_3 := qAa BK192.out 3
             have hfz48_4 := qAa BK192.out 4
             have hfz48_5 := qAa BK192.out 5
             go_wp2
             repeat (go_quiet (fail); try go_wp2)
             go_ret
             exact ⟨by first | rfl | (simp [qAl, qAk] <;> rfl) | (simp [*, qAl, qAk] <;> rfl), by repeat (first | (with_reducible first | exact HB.out | apply qAd | apply qAc | apply qAe | refine qAf ?_ GE192.out) | exact HB.out)⟩
end Go.Proofs.YtbnoihpooeombaaDoor.P

namespace Go.Proofs.YtbnoihpooeombaaDoor.P
open Go.Proofs.YtbnoihpooeombaaDoor.X
open Go.RowKit Go.Proofs.YtbnoihpooeombaaDoorW.PrintWords Go.Proofs.YtbnoihpooeombaaDoorW.PrintLast Go.Proofs.YtbnoihpooeombaaDoorW.PrintMore
attribute [local go_sem] qAr qAx
set_option linter.unusedVariables false
set_option linter.unusedSimpArgs false
def hogsheadref15_May.f (k : Nat) (a0_0 : Int) (a0_1 : Bool) (a0_2 : Int) (a0_3 : ByteArray) (l0_4 : List (S25)) (l0_5 : List ByteArray) : Option (Bool) := (hogsheadref15_Count.f k a0_0 a0_1 a0_2 a0_3 l0_4 l0_5 20).bind fun t199 => (if t199 ≤ 4000 then ((hogsheadref15_may.f k a0_0 a0_1 a0_2 a0_3 l0_4 l0_5 16).bind fun t200 => (some t200)) else (some false))
set_option maxHeartbeats 8000000 in
set_option maxRecDepth 100000 in
theorem hogsheadref15_May.calls (k : Nat) (a0_0 : Int) (a0_1 : Bool) (a0_2 : Int) (a0_3 : ByteArray) (A0_4 : Option Addr) (c0_4 : Nat) (l0_4 : List (S25)) (A0_5 : Option Addr) (c0_5 : Nat) (l0_5 : List ByteArray) (r : Bool) (w : World) (hr0_4 : Kd.C k25 w A0_4 l0_4.length l0_4) (hc0_4 : l0_4.length ≤ c0_4) (hr0_5 : Kd.C Kd.string w A0_5 l0_5.length l0_5) (hc0_5 : l0_5.length ≤ c0_5) (h : hogsheadref15_May.f k a0_0 a0_1 a0_2 a0_3 l0_4 l0_5 = some r) :
  Calls Tryd.prog 22 #[.agg #[.int .i64 a0_0, .bool a0_1, .int .i64 a0_2, .string a0_3, .slice A0_4 l0_4.length c0_4, .slice A0_5 l0_5.length c0_5]] w fun e w' => e = .returned (.bool r) ∧ Below w.heap.size w w' := by
 have hu25 := Tryd.underlying25
 have HR0_4 := Aside0.mk hr0_4
 have HC0_4 := Aside0.mk hc0_4
 clear hr0_4 hc0_4
 have HR0_5 := Aside0.mk hr0_5
 have HC0_5 := Aside0.mk hc0_5
 clear hr0_5 hc0_5
 have HB := Aside0.mk (Below.refl w.heap.size w)
 have H : ((hogsheadref15_Count.f k a0_0 a0_1 a0_2 a0_3 l0_4 l0_5 20).bind fun t199 => (if t199 ≤ 4000 then ((hogsheadref15_may.f k a0_0 a0_1 a0_2 a0_3 l0_4 l0_5 16).bind fun t200 => (some t200)) else (some false))) = some r := h
 clear h
 replace H := Option.bind_eq_some_iff.mp H
 obtain ⟨t199, A20, H⟩ := H
 replace H : (if t199 ≤ 4000 then ((hogsheadref15_may.f k a0_0 a0_1 a0_2 a0_3 l0_4 l0_5 16).bind fun t200 => (some t200)) else (some false)) = some r := H
 have A2 := Aside0.mk A20
 clear A20
 by_cases c3 : t199 ≤ 4000
 ·rw [if_pos c3] at H
  have c3b0 : decide (t199 ≤ 4000) = true := decide_eq_true c3
  clear c3
  replace H := Option.bind_eq_some_iff.mp H
  obtain ⟨t200, A40, H⟩ := H
  replace H : (some t200) = some r := H
  have A4 := Aside0.mk A40
  clear A40
  obtain rfl := Option.some.inj H
  go_enter Tryd.func22, Tryd.ntmps22
  go_wp2_with (first | ((with_reducible refine qAy (N := 1) rfl ?_); refine qAv ?hg (N := 1) ?hd (cs := #[.int .i64 a0_0, .bool a0_1, .int .i64 a0_2, .string a0_3, .slice A0_4 l0_4.length c0_4, .slice A0_5 l0_5.length c0_5]) (t := 25) ?hr ?_; (case hd => rfl); (case hg => rfl); (case hr => first | (go_simp; done) | (go_simp; rfl)); intro gb198 hg w5 hbox hb; have n0_ := Aside0.mk (qAj (by repeat (first | (with_reducible first | exact HB.out | apply qAd | apply qAc | apply qAe) | exact HB.out)) hb); have n1_ := Aside0.mk (hbox); have n2_ := Aside0.mk ((by rw [hg]; exact (qAn (by repeat (first | (with_reducible first | exact HB.out | apply qAd | apply qAc | apply qAe) | exact HB.out))) : w.heap.size ≤ gb198)); have n3_ := Aside0.mk ((by rw [hg]; exact (qAn (by repeat (first | (with_reducible first | exact HB.out | apply qAd | apply qAc | apply qAe) | exact HB.out))) : w.heap.size ≤ gb198)); clear HB; have HB := n0_; have BK198 := n1_; have GW198 := n2_; have GE198 := n3_; clear n0_ n1_ n2_ n3_; clear hb hbox hg; have hcz6_0 : w5.cell? ⟨gb198, 0, none⟩ = some (.int .i64 a0_0) := (qAb BK198.out 0).trans rfl; have hcz6_1 : w5.cell? ⟨gb198, 1, none⟩ = some (.bool a0_1) := (qAb BK198.out 1).trans rfl; have hcz6_2 : w5.cell? ⟨gb198, 2, none⟩ = some (.int .i64 a0_2) := (qAb BK198.out 2).trans rfl; have hcz6_3 : w5.cell? ⟨gb198, 3, none⟩ = some (.string a0_3) := (qAb BK198.out 3).trans rfl; have hcz6_4 : w5.cell? ⟨gb198, 4, none⟩ = some (.slice A0_4 l0_4.length c0_4) := (qAb BK198.out 4).trans rfl; have hcz6_5 : w5.cell? ⟨gb198, 5, none⟩ = some (.slice A0_5 l0_5.length c0_5) := (qAb BK198.out 5).trans rfl; have hfz6_0 := qAa BK198.out 0; have hfz6_1 := qAa BK198.out 1; have hfz6_2 := qAa BK198.out 2; have hfz6_3 := qAa BK198.out 3; have hfz6_4 := qAa BK198.out 4; have hfz6_5 := qAa BK198.out 5) | ((with_reducible refine qAp (f := 52) rfl ?_); refine goesL_ (some 4) rfl rfl Tryd.func52 (by kernel_rfl) rfl #[.agg #[.int .i64 a0_0, .bool a0_1, .int .i64 a0_2, .string a0_3, .slice A0_4 l0_4.length c0_4, .slice A0_5 l0_5.length c0_5], .int .i64 20] rfl (by (try simp only [List.map_toArray, List.map_cons, List.map_nil]); first | done | rfl | (simp only [List.length_drop, List.length_take]; rfl)) ?_; (with_reducible refine (hogsheadref15_Count.calls k a0_0 a0_1 a0_2 a0_3 _ _ l0_4 _ _ l0_5 20 t199 _ ?side1 ?side2 ?side3 ?side4 A2.out).mono ?_); (case side1 => repeat (first | exact (Kd.C_below HR0_4.out HB.out) | (with_reducible refine Kd.C_alloc ?_ _) | (with_reducible refine Kd.C_drewN ?_ _) | (with_reducible refine Kd.C_drew ?_))); (case side2 => exact HC0_4.out); (case side3 => repeat (first | exact (Kd.C_below HR0_5.out HB.out) | (with_reducible refine Kd.C_alloc ?_ _) | (with_reducible refine Kd.C_drewN ?_ _) | (with_reducible refine Kd.C_drew ?_))); (case side4 => exact HC0_5.out); rintro e w7 ⟨rfl, hb⟩; refine ⟨_, rfl, ?_⟩; have n0_ := Aside0.mk (qAm (g := gb198) (o := .cells #[.int .i64 a0_0, .bool a0_1, .int .i64 a0_2, .string a0_3, .slice A0_4 l0_4.length c0_4, .slice A0_5 l0_5.length c0_5] 25 (0, 0)) (by (with_reducible repeat (first | refine qAg ?_ _ | refine qAi ?_ | refine blk_alloc ?_ _)); exact BK198.out) hb); have n1_ := Aside0.mk (qAj (by repeat (first | (with_reducible first | exact HB.out | apply qAd | apply qAc | apply qAe | refine qAf ?_ GE198.out) | exact HB.out)) hb); clear BK198; clear HB; have BK198 := n0_; have HB := n1_; clear n0_ n1_; (try clear hb); (try clear hb2); (try clear hk); (try clear hi); have hcz8_0 : w7.cell? ⟨gb198, 0, none⟩ = some (.int .i64 a0_0) := (qAb BK198.out 0).trans rfl; have hcz8_1 : w7.cell? ⟨gb198, 1, none⟩ = some (.bool a0_1) := (qAb BK198.out 1).trans rfl; have hcz8_2 : w7.cell? ⟨gb198, 2, none⟩ = some (.int .i64 a0_2) := (qAb BK198.out 2).trans rfl; have hcz8_3 : w7.cell? ⟨gb198, 3, none⟩ = some (.string a0_3) := (qAb BK198.out 3).trans rfl; have hcz8_4 : w7.cell? ⟨gb198, 4, none⟩ = some (.slice A0_4 l0_4.length c0_4) := (qAb BK198.out 4).trans rfl; have hcz8_5 : w7.cell? ⟨gb198, 5, none⟩ = some (.slice A0_5 l0_5.length c0_5) := (qAb BK198.out 5).trans rfl; have hfz8_0 := qAa BK198.out 0; have hfz8_1 := qAa BK198.out 1; have hfz8_2 := qAa BK198.out 2; have hfz8_3 := qAa BK198.out 3; have hfz8_4 := qAa BK198.out 4; have hfz8_5 := qAa BK198.out 5) | (go_at_call 53; (with_reducible refine (hogsheadref15_may.calls k a0_0 a0_1 a0_2 a0_3 _ _ l0_4 _ _ l0_5 16 t200 _ ?side1 ?side2 ?side3 ?side4 A4.out).mono ?_); (case side1 => repeat (first | exact (Kd.C_below HR0_4.out HB.out) | (with_reducible refine Kd.C_alloc ?_ _) | (with_reducible refine Kd.C_drewN ?_ _) | (with_reducible refine Kd.C_drew ?_))); (case side2 => exact HC0_4.out); (case side3 => repeat (first | exact (Kd.C_below HR0_5.out HB.out) | (with_reducible refine Kd.C_alloc ?_ _) | (with_reducible refine Kd.C_drewN ?_ _) | (with_reducible refine Kd.C_drew ?_))); (case side4 => exact HC0_5.out); rintro e w9 ⟨rfl, hb⟩; have n0_ := Aside0.mk (qAm (g := gb198) (o := .cells #[.int .i64 a0_0, .bool a0_1, .int .i64 a0_2, .string a0_3, .slice A0_4 l0_4.length c0_4, .slice A0_5 l0_5.length c0_5] 25 (0, 0)) (by (with_reducible repeat (first | refine qAg ?_ _ | refine qAi ?_ | refine blk_alloc ?_ _)); exact BK198.out) hb); have n1_ := Aside0.mk (qAj (by repeat (first | (with_reducible first | exact HB.out | apply qAd | apply qAc | apply qAe | refine qAf ?_ GE198.out) | exact HB.out)) hb); clear BK198; clear HB; have BK198 := n0_; have HB := n1_; clear n0_ n1_; (try clear hb); (try clear hb2); (try clear hk); (try clear hi)))
  go_ret
  exact ⟨by first | rfl | (simp [qAl, qAk] <;> rfl) | (simp [*, qAl, qAk] <;> rfl), by repeat (first | (with_reducible first | exact HB.out | apply qAd | apply qAc | apply qAe | refine qAf ?_ GE198.out) | exact HB.out)⟩
 ·rw [if_neg c3] at H
  have c3b0 : decide (t199 ≤ 4000) = false := decide_eq_false c3
  clear c3
  obtain rfl := Option.some.inj H
  go_enter Tryd.func22, Tryd.ntmps22
  go_wp2_with (first | ((with_reducible refine qAy (N := 1) rfl ?_); refine qAv ?hg (N := 1) ?hd (cs := #[.int .i64 a0_0, .bool a0_1, .int .i64 a0_2, .string a0_3, .slice A0_4 l0_4.length c0_4, .slice A0_5 l0_5.length c0_5]) (t := 25) ?hr ?_; (case hd => rfl); (case hg => rfl); (case hr => first | (go_simp; done) | (go_simp; rfl)); intro gb198 hg w10 hbox hb; have n0_ := Aside0.mk (qAj (by repeat (first | (with_reducible first | exact HB.out | apply qAd | apply qAc | apply qAe) | exact HB.out)) hb); have n1_ := Aside0.mk (hbox); have n2_ := Aside0.mk ((by rw [hg]; exact (qAn (by repeat (first | (with_reducible first | exact HB.out | apply qAd | apply qAc | apply qAe) | exact HB.out))) : w.heap.size ≤ gb198)); have n3_ := Aside0.mk ((by rw [hg]; exact (qAn (by repeat (first | (with_reducible first | exact HB.out | apply qAd | apply qAc | apply qAe) | exact HB.out))) : w.heap.size ≤ gb198)); clear HB; have HB := n0_; have BK198 := n1_; have GW198 := n2_; have GE198 := n3_; clear n0_ n1_ n2_ n3_; clear hb hbox hg; have hcz11_0 : w10.cell? ⟨gb198, 0, none⟩ = some (.int .i64 a0_0) := (qAb BK198.out 0).trans rfl; have hcz11_1 : w10.cell? ⟨gb198, 1, none⟩ = some (.bool a0_1) := (qAb BK198.out 1).trans rfl; have hcz11_2 : w10.cell? ⟨gb198, 2, none⟩ = some (.int .i64 a0_2) := (qAb BK198.out 2).trans rfl; have hcz11_3 : w10.cell? ⟨gb198, 3, none⟩ = some (.string a0_3) := (qAb BK198.out 3).trans rfl; have hcz11_4 : w10.cell? ⟨gb198, 4, none⟩ = some (.slice A0_4 l0_4.length c0_4) := (qAb BK198.out 4).trans rfl; have hcz11_5 : w10.cell? ⟨gb198, 5, none⟩ = some (.slice A0_5 l0_5.length c0_5) := (qAb BK198.out 5).trans rfl; have hfz11_0 := qAa BK198.out 0; have hfz11_1 := qAa BK198.out 1; have hfz11_2 := qAa BK198.out 2; have hfz11_3 := qAa BK198.out 3; have hfz11_4 := qAa BK198.out 4; have hfz11_5 := qAa BK198.out 5) | ((with_reducible refine qAp (f := 52) rfl ?_); refine goesL_ (some 4) rfl rfl Tryd.func52 (by kernel_rfl) rfl #[.agg #[.int .i64 a0_0, .bool a0_1, .int .i64 a0_2, .string a0_3, .slice A0_4 l0_4.length c0_4, .slice A0_5 l0_5.length c0_5], .int .i64 20] rfl (by (try simp only [List.map_toArray, List.map_cons, List.map_nil]); first | done | rfl | (simp only [List.length_drop, List.length_take]; rfl)) ?_; (with_reducible refine (hogsheadref15_Count.calls k a0_0 a0_1 a0_2 a0_3 _ _ l0_4 _ _ l0_5 20 t199 _ ?side1 ?side2 ?side3 ?side4 A2.out).mono ?_); (case side1 => repeat (first | exact (Kd.C_below HR0_4.out HB.out) | (with_reducible refine Kd.C_alloc ?_ _) | (with_reducible refine Kd.C_drewN ?_ _) | (with_reducible refine Kd.C_drew ?_))); (case side2 => exact HC0_4.out); (case side3 => repeat (first | exact (Kd.C_below HR0_5.out HB.out) | (with_reducible refine Kd.C_alloc ?_ _) | (with_reducible refine Kd.C_drewN ?_ _) | (with_reducible refine Kd.C_drew ?_))); (case side4 => exact HC0_5.out); rintro e w12 ⟨rfl, hb⟩; refine ⟨_, rfl, ?_⟩; have n0_ := Aside0.mk (qAm (g := gb198) (o := .cells #[.int .i64 a0_0, .bool a0_1, .int .i64 a0_2, .string a0_3, .slice A0_4 l0_4.length c0_4, .slice A0_5 l0_5.length c0_5] 25 (0, 0)) (by (with_reducible repeat (first | refine qAg ?_ _ | refine qAi ?_ | refine blk_alloc ?_ _)); exact BK198.out) hb); have n1_ := Aside0.mk (qAj (by repeat (first | (with_reducible first | exact HB.out | apply qAd | apply qAc | apply qAe | refine qAf ?_ GE198.out) | exact HB.out)) hb); clear BK198; clear HB; have BK198 := n0_; have HB := n1_; clear n0_ n1_; (try clear hb); (try clear hb2); (try clear hk); (try clear hi)))
  go_ret
  exact ⟨by first | rfl | (simp [qAl, qAk] <;> rfl) | (simp [*, qAl, qAk] <;> rfl), by repeat (first | (with_reducible first | exact HB.out | apply qAd | apply qAc | apply qAe | refine qAf ?_ GE198.out) | exact HB.out)⟩
end Go.Proofs.YtbnoihpooeombaaDoor.P

namespace Go.Proofs.YtbnoihpooeombaaDoor.X
open Go.RowKit Go.Proofs.YtbnoihpooeombaaDoorW.PrintWords Go.Proofs.YtbnoihpooeombaaDoorW.PrintLast Go.Proofs.YtbnoihpooeombaaDoorW.PrintMore Go.Proofs.YtbnoihpooeombaaDoor.P
set_option linter.unusedVariables false
set_option linter.unusedSimpArgs false
def okV : Nat → S25 → Prop
  | 0, _ => False
  | d + 1, x => 0 ≤ x.f0 ∧ x.f0 ≤ 5 ∧ -9007199254740992 ≤ x.f2 ∧ x.f2 ≤ 9007199254740992 ∧ x.f3.size ≤ 1000000 ∧ x.f4.length ≤ 100000 ∧ x.f5.length ≤ 100000 ∧ (∀ s ∈ x.f5, s.size ≤ 1000000) ∧ (x.f0 = 5 → x.f5.length = x.f4.length) ∧ ∀ y ∈ x.f4, okV d y
def KeepT (w w' : World) : Prop := w.heap.size ≤ w'.heap.size ∧ ∀ (k : Nat) (cs : Array Value) (t : TypeId) (fr : Nat × Nat), w.heap[k]? = some (.cells cs t fr) → t ≠ 5 → w'.heap[k]? = some (.cells cs t fr)
theorem KeepT.trans {a b c : World} (h : KeepT a b) (k : KeepT b c) : KeepT a c := ⟨Nat.le_trans h.1 k.1, fun q cs t fr e n => k.2 q cs t fr (h.2 q cs t fr e n) n⟩
def okB : Nat → S25 → Bool
  | 0, _ => false
  | d + 1, x => decide (0 ≤ x.f0 ∧ x.f0 ≤ 5 ∧ -9007199254740992 ≤ x.f2 ∧ x.f2 ≤ 9007199254740992 ∧ x.f3.size ≤ 1000000 ∧ x.f4.length ≤ 100000 ∧ x.f5.length ≤ 100000 ∧ (x.f0 = 5 → x.f5.length = x.f4.length)) && (x.f5.all (fun s => decide (s.size ≤ 1000000)) && x.f4.all (okB d))
def textB (d : Nat) (x : S25) : ByteArray := strOfNums (textI d x)
def hogsheadref15_Lay.f (k : Nat) (a0_0 : Int) (a0_1 : Bool) (a0_2 : Int) (a0_3 : ByteArray) (l0_4 : List (S25)) (l0_5 : List ByteArray) : Option (ByteArray × Int) :=
  (hogsheadref15_May.f k a0_0 a0_1 a0_2 a0_3 l0_4 l0_5).bind fun m => if m = true then (if okB 16 ⟨a0_0, a0_1, a0_2, a0_3, l0_4, l0_5⟩ = true ∧ (textI 16 ⟨a0_0, a0_1, a0_2, a0_3, l0_4, l0_5⟩).length ≤ 140737488355000 then some (textB 16 ⟨a0_0, a0_1, a0_2, a0_3, l0_4, l0_5⟩, 0) else none) else some (ByteArray.empty, 2)
end Go.Proofs.YtbnoihpooeombaaDoor.X

namespace Go.Proofs.YtbnoihpooeombaaDoor.X
open Go.RowKit Go.WideShapes Go.ChangeShapes Go.Proofs.YtbnoihpooeombaaDoorW.PrintWords Go.Proofs.YtbnoihpooeombaaDoor.P
set_option linter.unusedVariables false
section
variable {H : Type} {enc : TypeId × Value → H} {w : World} {base : Nat} {spare : Nat → Bool} {held : Bool}
theorem qDd {P : Program} {α : Type} (d : Kd α) (dflt : α) {t e : TypeId} (ht : P.underlying t = some (.slice e)) (hc : P.cellsOf e = d.sz) {fuel : Nat} {cs : List Value} {x : DataW H × List MemPlace}
    (hel : ∀ n cs x, n < fuel → DataW.trod enc P w base spare held n e cs = some x → ∃ y, d.K w y cs) (h : DataW.trod enc P w base spare held fuel t cs = some x) :
    ∃ (A : Option Addr) (c : Nat) (l : List α), cs = [.slice A l.length c] ∧ l.length ≤ c ∧ d.C w A l.length l := by
  rcases DataW.trod_slice ht h with ⟨rfl, _⟩ | ⟨a, len, cap, elems, rest, n, rfl, rfl, _, hb, hl, hm, hlen, hE, _, _⟩
  · exact ⟨none, 0, [], rfl, Nat.le_refl _, rfl, by simp, fun h => absurd h (by simp)⟩
  · haveI : Inhabited α := ⟨dflt⟩
    have hone : ∀ i, i < len → ∃ y : α, ∃ c : List Value, c.length = d.sz ∧ d.K w y c ∧ ∀ j u, c[j]? = some u → w.cell? (a.add (i * d.sz + j)) = some u := by
      intro i hi
      have h1 := hE i hi
      rw [List.getElem?_eq_getElem (by omega)] at h1
      obtain ⟨cs', h2, h3⟩ := Option.bind_eq_some_iff.1 h1
      obtain ⟨y, hy⟩ := hel n cs' _ (Nat.lt_succ_self n) h3
      obtain ⟨_, h4, h5⟩ := World.cells?_some h2
      rw [hc] at h4 h5
      refine ⟨y, cs', h4, hy, fun j u hj => ?_⟩
      have hjl : j < d.sz := by
        have := (List.getElem?_eq_some_iff.1 hj).1; omega
      have h6 := h5 j hjl
      rw [Go.Deep.add_add] at h6
      rw [h6, hj]
    obtain ⟨f, hf⟩ := Go.Deep.choose_lt hone
    refine ⟨some a, cap, (List.range len).map f, by simp, by simpa using hl, by simp, by simpa [maxLen] using Nat.le_trans hl hm, fun _ => ⟨a, rfl, fun j p hp => ?_⟩⟩
    have hj : j < len := by
      have := (List.getElem?_eq_some_iff.1 hp).1; simpa using this
    have : f j = p := by simpa [hj] using hp
    subst this
    exact hf j hj
set_option maxRecDepth 100000 in
theorem qG5 {fuel : Nat} {cs : List Value} {x : DataW H × List MemPlace} (h : DataW.trod enc Tryd.prog w base spare held fuel 9 cs = some x) : ∃ y : ByteArray, Kd.string.K w y cs := by
  obtain ⟨s, rfl, _, _⟩ := DataW.trod_string Tryd.underlying9 h
  exact ⟨s, rfl⟩
set_option maxRecDepth 100000 in
theorem qEc {fuel : Nat} {cs : List Value} {x : DataW H × List MemPlace} (h : DataW.trod enc Tryd.prog w base spare held fuel 23 cs = some x) :
    ∃ (A : Option Addr) (c : Nat) (l : List ByteArray), cs = [.slice A l.length c] ∧ l.length ≤ c ∧ Kd.string.C w A l.length l :=
  qDd Kd.string ByteArray.empty Tryd.underlying23 (by kernel_rfl) (fun n cs x _ h => qG5 h) h
set_option maxRecDepth 100000 in
theorem trod_V : ∀ (fuel : Nat) (cs : List Value) (x : DataW H × List MemPlace), DataW.trod enc Tryd.prog w base spare held fuel 25 cs = some x → ∃ y : S25, k25.K w y cs := by
  intro fuel
  induction fuel using Nat.strongRecOn with
  | _ fuel ih =>
    intro cs x h
    obtain ⟨xs, n, rfl, _, hl, hxl, hf⟩ := DataW.trod_struct Tryd.underlying25 h
    have hC : Tryd.prog.cellsOf 25 = 6 := by kernel_rfl
    rw [hC] at hl
    obtain ⟨c0, c1, c2, c3, c4, c5, rfl⟩ : ∃ c0 c1 c2 c3 c4 c5, cs = [c0, c1, c2, c3, c4, c5] := by
      rcases cs with _ | ⟨c0, _ | ⟨c1, _ | ⟨c2, _ | ⟨c3, _ | ⟨c4, _ | ⟨c5, _ | ⟨c6, cs⟩⟩⟩⟩⟩⟩⟩ <;> simp only [List.length_cons, List.length_nil] at hl <;> first | (exact ⟨c0, c1, c2, c3, c4, c5, rfl⟩) | omega
    have hx : ∀ i, i < 6 → ∃ z, xs[i]? = some z := fun i hi => ⟨_, List.getElem?_eq_getElem (by rw [hxl]; exact hi)⟩
    have k1 : ∀ t, Tryd.prog.cellsOf t = 1 → Tryd.prog.cellsOf t = 1 := fun _ h => h
    have t1 : Tryd.prog.cellsOf 3 = 1 := by kernel_rfl
    have t2 : Tryd.prog.cellsOf 4 = 1 := by kernel_rfl
    have t3 : Tryd.prog.cellsOf 9 = 1 := by kernel_rfl
    have t4 : Tryd.prog.cellsOf 22 = 1 := by kernel_rfl
    have t5 : Tryd.prog.cellsOf 23 = 1 := by kernel_rfl
    obtain ⟨z0, e0⟩ := hx 0 (by omega)
    obtain ⟨z1, e1⟩ := hx 1 (by omega)
    obtain ⟨z2, e2⟩ := hx 2 (by omega)
    obtain ⟨z3, e3⟩ := hx 3 (by omega)
    obtain ⟨z4, e4⟩ := hx 4 (by omega)
    obtain ⟨z5, e5⟩ := hx 5 (by omega)
    have f0 : DataW.trod enc Tryd.prog w base spare held n 3 (([c0, c1, c2, c3, c4, c5].drop 0).take (Tryd.prog.cellsOf 3)) = some z0 := (hf 0 _ rfl).trans e0
    have f1 : DataW.trod enc Tryd.prog w base spare held n 4 (([c0, c1, c2, c3, c4, c5].drop 1).take (Tryd.prog.cellsOf 4)) = some z1 := (hf 1 _ rfl).trans e1
    have f2 : DataW.trod enc Tryd.prog w base spare held n 3 (([c0, c1, c2, c3, c4, c5].drop 2).take (Tryd.prog.cellsOf 3)) = some z2 := (hf 2 _ rfl).trans e2
    have f3 : DataW.trod enc Tryd.prog w base spare held n 9 (([c0, c1, c2, c3, c4, c5].drop 3).take (Tryd.prog.cellsOf 9)) = some z3 := (hf 3 _ rfl).trans e3
    have f4 : DataW.trod enc Tryd.prog w base spare held n 22 (([c0, c1, c2, c3, c4, c5].drop 4).take (Tryd.prog.cellsOf 22)) = some z4 := (hf 4 _ rfl).trans e4
    have f5 : DataW.trod enc Tryd.prog w base spare held n 23 (([c0, c1, c2, c3, c4, c5].drop 5).take (Tryd.prog.cellsOf 23)) = some z5 := (hf 5 _ rfl).trans e5
    simp only [t1, t2, t3, t4, t5, List.drop_zero, List.drop_succ_cons, List.take_succ_cons, List.take_zero] at f0 f1 f2 f3 f4 f5
    obtain ⟨n0, g0, _, _⟩ := DataW.trod_int Tryd.underlying3 f0
    obtain ⟨b1, g1, _⟩ := DataW.trod_bool Tryd.underlying4 f1
    obtain ⟨n2, g2, _, _⟩ := DataW.trod_int Tryd.underlying3 f2
    obtain ⟨s3, g3, _, _⟩ := DataW.trod_string Tryd.underlying9 f3
    obtain ⟨A4, d4, l4, g4, h4, r4⟩ := qDd k25 z25 Tryd.underlying22 (by kernel_rfl) (fun m cs x hm h => ih m (by omega) cs x h) f4
    obtain ⟨A5, d5, l5, g5, h5, r5⟩ := qEc f5
    simp only [List.cons.injEq, and_true] at g0 g1 g2 g3 g4 g5
    subst g0 g1 g2 g3 g4 g5
    exact ⟨⟨n0, b1, n2, s3, l4, l5⟩, k25_mk w ⟨n0, b1, n2, s3, l4, l5⟩ h4 r4 h5 r5⟩
set_option maxRecDepth 100000 in
theorem qHs {r : Reach} {b0 : Nat} {v : Value} {d : DataW H} {ps : List MemPlace} (hval : Value.okWide Tryd.prog w r b0 22 v) (hd : DataW.Trod enc Tryd.prog w base spare held 22 v d ps) :
    ∃ (A : Option Addr) (c : Nat) (l : List S25), v = .slice A l.length c ∧ l.length ≤ c ∧ k25.C w A l.length l := by
  obtain ⟨a, n, c, rfl⟩ := okWide_slice Tryd.underlying22 hval
  obtain ⟨fuel, hf⟩ := hd
  obtain ⟨A4, d4, l4, g4, h4, r4⟩ := qDd k25 z25 Tryd.underlying22 (by kernel_rfl) (fun m cs x hm h => trod_V m cs x h) hf
  have g4 : [Value.slice a n c] = [.slice A4 l4.length d4] := g4
  simp only [List.cons.injEq, and_true] at g4
  exact ⟨A4, d4, l4, g4, h4, r4⟩
set_option maxRecDepth 100000 in
theorem qHt {r : Reach} {b0 : Nat} {v : Value} {d : DataW H} {ps : List MemPlace} (hval : Value.okWide Tryd.prog w r b0 23 v) (hd : DataW.Trod enc Tryd.prog w base spare held 23 v d ps) :
    ∃ (A : Option Addr) (c : Nat) (l : List ByteArray), v = .slice A l.length c ∧ l.length ≤ c ∧ Kd.string.C w A l.length l := by
  obtain ⟨a, n, c, rfl⟩ := okWide_slice Tryd.underlying23 hval
  obtain ⟨fuel, hf⟩ := hd
  obtain ⟨A4, d4, l4, g4, h4, r4⟩ := qEc hf
  have g4 : [Value.slice a n c] = [.slice A4 l4.length d4] := g4
  simp only [List.cons.injEq, and_true] at g4
  exact ⟨A4, d4, l4, g4, h4, r4⟩
end
end Go.Proofs.YtbnoihpooeombaaDoor.X

namespace Go.Proofs.YtbnoihpooeombaaDoor.P
open Go.Proofs.YtbnoihpooeombaaDoor.X
open Go.RowKit Go.Proofs.YtbnoihpooeombaaDoorW.PrintWords Go.Proofs.YtbnoihpooeombaaDoorW.PrintLast Go.Proofs.YtbnoihpooeombaaDoorW.PrintMore
attribute [local go_sem] qAr qAx
set_option linter.unusedVariables false
set_option linter.unusedSimpArgs false
mutual
def hogsheadlaw0_GreatTexts.l0 : Nat → List ByteArray → Int → Int → Int → Option (Bool)
 | 0, _, _, _, _ => none
 | k + 1, x0, x1, x2, x7 => if x7 < (x0.length : Int) then (hogsheadlaw0_GreatTexts.j1 k x0 x1 x2 x7 (decide ((x0.length : Int) ≤ x1))) else (hogsheadlaw0_GreatTexts.j1 k x0 x1 x2 x7 false)
def hogsheadlaw0_GreatTexts.j1 : Nat → List ByteArray → Int → Int → Int → Bool → Option (Bool)
 | 0, _, _, _, _, _ => none
 | k + 1, x0, x1, x2, x7, x17 => if x17 = true then (if 0 ≤ x7 then (if x7 < (x0.length : Int) then (if ((rdOf ByteArray.empty x0 x7).size : Int) > x2 then (some true) else (hogsheadlaw0_GreatTexts.l0 k x0 x1 x2 (wrap64 (x7 + 1)))) else (none)) else (none)) else (some (decide ((x0.length : Int) > x1)))
end
def hogsheadlaw0_GreatTexts.f (k : Nat) (l0 : List ByteArray) (a1 : Int) (a2 : Int) : Option (Bool) := hogsheadlaw0_GreatTexts.l0 k l0 a1 a2 0
set_option maxHeartbeats 8000000 in
set_option maxRecDepth 100000 in
theorem hogsheadlaw0_GreatTexts.calls (k : Nat) (A0 : Option Addr) (c0 : Nat) (l0 : List ByteArray) (a1 : Int) (a2 : Int) (r : Bool) (w : World) (hr0 : Kd.C Kd.string w A0 l0.length l0) (hc0 : l0.length ≤ c0) (h : hogsheadlaw0_GreatTexts.f k l0 a1 a2 = some r) :
  Calls Tryd.prog 28 #[.slice A0 l0.length c0, .int .i64 a1, .int .i64 a2] w fun e w' => e = .returned (.bool r) ∧ Drawn0 w w' := by
 have HR0 := Aside0.mk hr0
 have HC0 := Aside0.mk hc0
 clear hr0 hc0
 have H : (hogsheadlaw0_GreatTexts.l0 k l0 a1 a2 0) = some r := h
 clear h
 have H' := Aside0.mk H
 clear H
 go_enter Tryd.func28, Tryd.ntmps28
 go_wp2
 go_loopg [7] k (fun kq v7 w' => ∃ (x7_1 : Int), v7 = .int .i64 x7_1 ∧ Aside0 (hogsheadlaw0_GreatTexts.l0 kq l0 a1 a2 x7_1 = some r) ∧ Aside0 (kq ≤ k) ∧ Drawn0 w w')
 case atStart => exact ⟨(0), (by first | rfl | (simp; done) | (simp [*]; done) | exact congrArg Value.bool (nil_ne _) | exact congrArg Value.bool (nil_eq _) | exact congrArg Value.bool (nil_ne' _)), H', ⟨Nat.le_refl _⟩, by repeat (first | exact Drawn0.refl _ | apply Drawn0.step)⟩
 case round =>
  clear H'
  try clear c2
  try clear p2
  obtain ⟨x7_1, rfl, HA, HK1, ⟨m1, rfl⟩⟩ := hrel
  cases gk with
  | zero => exact absurd HA.out (by simp [hogsheadlaw0_GreatTexts.l0])
  | succ k1 =>
   have H := HA.out
   clear HA
   simp only [hogsheadlaw0_GreatTexts.l0] at H
   have HC4 := Aside0.mk H
   clear H
   go_upto_region 2 with (fail)
   go_cut [17] (fun v17 wc => ∃ (kq : Nat) (x17_3 : Bool), v17 = .bool x17_3 ∧ Aside0 (hogsheadlaw0_GreatTexts.j1 kq l0 a1 a2 x7_1 x17_3 = some r) ∧ Aside0 (kq ≤ k1) ∧ Drawn0 w wc)
   case first =>
    have H := HC4.out
    clear HC4
    by_cases c5 : x7_1 < (l0.length : Int)
    ·rw [if_pos c5] at H
     have c5b0 : decide (x7_1 < (l0.length : Int)) = true := decide_eq_true c5
     clear c5
     (first | rw [c5b0] | (simp only [i64_w, i32_w]; rw [c5b0]) | skip)
     have H' := Aside0.mk H
     clear H
     go_wp2
     go_meet
     case rel => exact ⟨_, (decide ((l0.length : Int) ≤ a1)), (by first | rfl | (simp; done) | (simp [*]; done) | exact congrArg Value.bool (nil_ne _) | exact congrArg Value.bool (nil_eq _) | exact congrArg Value.bool (nil_ne' _)), H', ⟨by have := HK1.out; first | omega | exact Nat.le_refl _⟩, by repeat (first | exact Drawn0.refl _ | apply Drawn0.step)⟩
    ·rw [if_neg c5] at H
     have c5b0 : decide (x7_1 < (l0.length : Int)) = false := decide_eq_false c5
     clear c5
     (first | rw [c5b0] | (simp only [i64_w, i32_w]; rw [c5b0]) | skip)
     have H' := Aside0.mk H
     clear H
     go_wp2
     go_meet
     case rel => exact ⟨_, (false), (by first | rfl | (simp; done) | (simp [*]; done) | exact congrArg Value.bool (nil_ne _) | exact congrArg Value.bool (nil_eq _) | exact congrArg Value.bool (nil_ne' _)), H', ⟨by have := HK1.out; first | omega | exact Nat.le_refl _⟩, by repeat (first | exact Drawn0.refl _ | apply Drawn0.step)⟩
   case rest =>
    clear HC4
    try clear c2
    try clear p2
    try clear c5
    try clear c5b0
    try clear p2
    obtain ⟨kq, x17_3, rfl, HA, HJ3, ⟨mc3, rfl⟩⟩ := hcut
    cases kq with
    | zero => exact absurd HA.out (by simp [hogsheadlaw0_GreatTexts.j1])
    | succ kj3 =>
     have H := HA.out
     clear HA
     simp only [hogsheadlaw0_GreatTexts.j1] at H
     by_cases c6 : x17_3 = true
     ·subst c6
      have H1 : (if 0 ≤ x7_1 then (if x7_1 < (l0.length : Int) then (if ((rdOf ByteArray.empty l0 x7_1).size : Int) > a2 then (some true) else (hogsheadlaw0_GreatTexts.l0 kj3 l0 a1 a2 (wrap64 (x7_1 + 1)))) else (none)) else (none)) = some r := by rw [if_pos rfl] at H; exact H
      clear H
      have H := H1
      clear H1
      by_cases c7 : 0 ≤ x7_1
      ·rw [if_pos c7] at H
       have c7b0 : decide (0 ≤ x7_1) = true := decide_eq_true c7
       clear c7
       by_cases c8 : x7_1 < (l0.length : Int)
       ·rw [if_pos c8] at H
        have c8b0 : decide (x7_1 < (l0.length : Int)) = true := decide_eq_true c8
        clear c8
        by_cases c9 : ((rdOf ByteArray.empty l0 x7_1).size : Int) > a2
        ·rw [if_pos c9] at H
         have c9b0 : decide (a2 < ((rdOf ByteArray.empty l0 x7_1).size : Int)) = true := decide_eq_true c9
         clear c9
         obtain rfl := Option.some.inj H
         have p101 : 0 ≤ (x7_1 : Int) := of_decide_eq_true (by first | (with_reducible assumption) | assumption)
         have q101 : x7_1 < (l0.length : Int) := of_decide_eq_true (by first | (with_reducible assumption) | assumption)
         obtain ⟨ad101, e101, hx101_0⟩ := Kd.at_string HR0.out x7_1 p101 q101
         cases e101
         replace p101 := eq_true p101
         replace q101 := eq_true q101
         go_wp2
         go_ret
         exact ⟨by first | rfl | (simp; done) | (simp [*]; done), by repeat (first | exact Drawn0.refl _ | apply Drawn0.step)⟩
        ·rw [if_neg c9] at H
         have c9b0 : decide (a2 < ((rdOf ByteArray.empty l0 x7_1).size : Int)) = false := decide_eq_false c9
         clear c9
         have H' := Aside0.mk H
         clear H
         have p101 : 0 ≤ (x7_1 : Int) := of_decide_eq_true (by first | (with_reducible assumption) | assumption)
         have q101 : x7_1 < (l0.length : Int) := of_decide_eq_true (by first | (with_reducible assumption) | assumption)
         obtain ⟨ad101, e101, hx101_0⟩ := Kd.at_string HR0.out x7_1 p101 q101
         cases e101
         replace p101 := eq_true p101
         replace q101 := eq_true q101
         go_wp2
         go_roundg kj3
         case measure => have := HK1.out; have := HJ3.out; omega
         case rel => exact ⟨(wrap64 (x7_1 + 1)), (by first | rfl | (simp; done) | (simp [*]; done) | exact congrArg Value.bool (nil_ne _) | exact congrArg Value.bool (nil_eq _) | exact congrArg Value.bool (nil_ne' _)), H', ⟨by have := HK1.out; have := HJ3.out; omega⟩, by repeat (first | exact Drawn0.refl _ | apply Drawn0.step)⟩
       ·rw [if_neg c8] at H
        exact absurd H (by simp)
      ·rw [if_neg c7] at H
       exact absurd H (by simp)
     ·replace c6 := Bool.eq_false_iff.mpr c6
      subst c6
      have H1 : (some (decide ((l0.length : Int) > a1))) = some r := by rw [if_neg (show ¬ (false = true) by decide)] at H; exact H
      clear H
      have H := H1
      clear H1
      obtain rfl := Option.some.inj H
      go_wp2
      go_ret
      exact ⟨by first | rfl | (simp; done) | (simp [*]; done), by repeat (first | exact Drawn0.refl _ | apply Drawn0.step)⟩
end Go.Proofs.YtbnoihpooeombaaDoor.P
