/- Part 2 of what is behind the row RowValueGets: XVQ, XVO, Pf76, XVS, XVT, Pf52, Pf75, Pf53, Pf22, XVL, XRO, Pf28, Pf46, Pf14, XVN, XVE, Pf93, Pf66, X1, XVK, Pf47, Pf16, XVX, XVY, Pf24, XVZ, Pf98, Pf70, Pf71, Pf49. -/
import Derived.Test.YtbnoihpooeombaaDoorMVG1
import Derived.Outline
import Derived.WalkLawsBesides
import Derived.WalkSpells
import Derived.LoopTactic
import Derived.Lib.Hide
import Derived.Test.YtbnoihpooeombaaDoorProg
import Derived.Below
import Derived.Deep.Draws
import Derived.Deep.AppendLies
import Derived.Maps.AppendAt
import Derived.OwnWalk
import Derived.Laws.BytesArg
import Derived.Laws.MakeOwn
import Derived.Laws.OwnMore
import Derived.Deep.OwnRows
import Derived.Tactics
import Derived.Lib.ConvBytes
import Derived.Laws.Slices
import Derived.WalkKit
import Derived.KernelRfl
import Derived.RowKit3
import Derived.Deep.LoopGhost
import Derived.Deep.QuietTactic
import Derived.BigQuiet
import Derived.WideLaws
import Derived.Deep.DeepCutAuto
import Derived.Deep.CutBlock
import Derived.Deep.RegionHeld3
import Derived.Laws.Rows
import Derived.Lib.AppendStr
import Derived.ArgAppend
import Derived.Laws.IdiomCopy
import Derived.OrdersHeld
import Derived.Laws.BitsLemmas
import Derived.RowKit
import Derived.Laws.Cover1
import Derived.Laws.StructEq
import Derived.Lib.ItoaNum
import Derived.Lib.ItoaMem
import Derived.Deep.AppendSrc
import Derived.Lib.SliceRun
import Derived.Lib.IndexMore
import Derived.Lib.Bytealg
import Derived.Laws.BitsAllLaws
import Derived.Lib.Repeat
import Derived.Deep.DeepMust
import Derived.Lib.ItoaLen
import Derived.SliceStrings
import Derived.Deep.Slices
import Derived.Test.YtbnoihpooeombaaDoorRows
import Derived.ProofKit
import Derived.OpenShut
import Derived.ShutString
import Derived.SizedLaws
import Derived.Deep.DeepHandedRow
import Derived.Lib.LaidTab
import Derived.LaidMore
import Derived.Stop.Joined
import Derived.Shelf.Strings.Builder1
import Derived.Shelf.Strings.Builder2
import Derived.Shelf.Strings.OnBuilder
import Derived.Shelf.Strings.BuilderF
import Derived.Shelf.Strings.BuilderK
import Derived.Shelf.Strconv.Itoa0
import Derived.Shelf.Strconv.Itoa1
import Derived.Shelf.LaysM
import Derived.Shelf.Strconv.Itoa2
import Derived.Shelf.Strconv.Itoa3
import Derived.Shelf.Strings.Prefix
import Derived.Shelf.Bits.Mul64
import Derived.Shelf.Strings.Repeat
import Derived.ChangeSlices
import Derived.Laws.Bits64b
import Derived.Laws.NewBlocks
import Derived.Lib.AppendIntMem
namespace Go.Proofs.YtbnoihpooeombaaDoor.X
open Go.RowKit Go.Proofs.YtbnoihpooeombaaDoorW.PrintWords Go.Proofs.YtbnoihpooeombaaDoorW.PrintLast Go.Proofs.YtbnoihpooeombaaDoorW.PrintMore Go.Proofs.YtbnoihpooeombaaDoor.P
set_option linter.unusedVariables false
set_option linter.unusedSimpArgs false
theorem qAx (l : List ByteArray) (j : Nat) (h : j < l.length) : rdOf ByteArray.empty l (j : Int) = l[j] := by
  simp [rdOf, List.getD_eq_getElem?_getD, h]
theorem qGb (l : List ByteArray) (hn : l.length ≤ 9223372036854775807) : ∀ (d i : Nat), l.length - i = d → 1 ≤ i → Ev (fun k => value_rising.l0 k l (i : Int)) (qAv (l.drop (i - 1))) := by
  intro d
  induction d with
  | zero =>
    intro i hd hi
    refine ⟨1, fun k hk => ?_⟩
    obtain ⟨k, rfl⟩ : ∃ m, k = m + 1 := ⟨k - 1, by omega⟩
    simp only [value_rising.l0]
    rw [if_neg (by omega)]
    have : (l.drop (i - 1)).length ≤ 1 := by rw [List.length_drop]; omega
    generalize l.drop (i - 1) = m at *
    match m, this with
    | [], _ => rfl
    | [a], _ => rfl
  | succ d ih =>
    intro i hd hi
    have hlt : i < l.length := by omega
    have hlt2 : i - 1 < l.length := by omega
    obtain ⟨K, hK⟩ := ih (i + 1) (by omega) (by omega)
    refine ⟨K + 1, fun k hk => ?_⟩
    obtain ⟨k, rfl⟩ : ∃ m, k = m + 1 := ⟨k - 1, by omega⟩
    have hK := hK k (by omega)
    simp only at hK
    have EW : Aside0 (wrap64 ((i : Int) - 1) = ((i - 1 : Nat) : Int)) := ⟨by unfold wrap64; omega⟩
    have EV := Aside0.mk (wrap_i i l.length hlt hn)
    simp only [value_rising.l0]
    rw [if_pos (by omega), EW.out, if_pos (by omega), if_pos (by omega), if_pos (by omega), qAx l (i - 1) hlt2, qAx l i hlt, EV.out, hK]
    have e1 : l.drop (i - 1) = l[i - 1] :: l.drop i := by rw [List.drop_eq_getElem_cons hlt2]; congr 2; omega
    have e2 : l.drop i = l[i] :: l.drop (i + 1) := List.drop_eq_getElem_cons hlt
    have e3 : i + 1 - 1 = i := by omega
    rw [e1, e3, e2]
    show _ = some (Op.bytesLess l[i - 1].toList l[i].toList && qAv (l[i] :: l.drop (i + 1)))
    cases Op.bytesLess l[i - 1].toList l[i].toList
    · rw [if_neg (by simp)]; rfl
    · rw [if_pos rfl]; rfl
theorem qGc (l : List ByteArray) (hn : l.length ≤ 9223372036854775807) : Ev (fun k => value_rising.f k l) (qAv l) := by
  have := qGb l hn (l.length - 1) 1 rfl (by omega)
  exact this
theorem qHp (a b : Nat) (ha : a ≤ 9223372036854775807) (hb : b ≤ 9223372036854775807) : (wrap64 ((a : Int) + (b : Int)) = 0) ↔ (a = 0 ∧ b = 0) := by
  unfold wrap64
  omega
theorem qGt (y : S25) (h4 : y.f4.length ≤ 9223372036854775807) (h5 : y.f5.length ≤ 9223372036854775807) : Ev (fun k => value_fields.f k y.f0 y.f1 y.f2 y.f3 y.f4 y.f5) (qA5 y) := by
  obtain ⟨K, hK⟩ := qGc y.f5 h5
  refine ⟨K + 2, fun k hk => ?_⟩
  obtain ⟨k, rfl⟩ : ∃ m, k = m + 2 := ⟨k - 2, by omega⟩
  have hK := hK k (by omega)
  simp only at hK
  have hl := qHp y.f4.length y.f5.length h4 h5
  have e3 : (y.f3.toList == ([] : List UInt8)) = (y.f3.size == 0) := by
    rw [Bool.eq_iff_iff, beq_iff_eq, beq_iff_eq]; exact qFo y.f3
  have hl2 : (wrap64 ((y.f4.length : Int) + (y.f5.length : Int)) == 0) = (y.f4.isEmpty && y.f5.isEmpty) := by
    rw [Bool.eq_iff_iff, beq_iff_eq, hl, Bool.and_eq_true, List.isEmpty_iff_length_eq_zero, List.isEmpty_iff_length_eq_zero]
  have hl3 : (wrap64 ((y.f4.length : Int) + (y.f5.length : Int)) = 0) ↔ (y.f4.isEmpty && y.f5.isEmpty) = true := by
    rw [hl, Bool.and_eq_true, List.isEmpty_iff_length_eq_zero, List.isEmpty_iff_length_eq_zero]
  have HL2 := Aside0.mk hl2
  have HL3 := Aside0.mk hl3
  clear hl hl2 hl3
  obtain ⟨f0, f1, f2, f3, f4, f5⟩ := y
  simp only at hK e3 HL2 HL3 h4 h5 ⊢
  have hj : ∀ b : Bool, value_fields.j0 (k + 2) b f0 f1 f2 f3 f4 f5 = some (b && (if f0 = 0 ∨ f0 = 1 ∨ f0 = 3 then f4.isEmpty && f5.isEmpty else if f0 = 2 then f4.isEmpty && f5.isEmpty && decide (-9007199254740992 ≤ f2) && decide (f2 ≤ 9007199254740992) else if f0 = 4 then f5.isEmpty else if f0 = 5 then f5.length == f4.length && qAv f5 else false)) := by
    intro b
    have hE : ∀ c : Bool, value_fields.j0 (k + 2) b f0 f1 f2 f3 f4 f5 = value_fields.j1 (k + 1) b f0 (decide (f0 = 0 ∨ f0 = 1 ∨ f0 = 3)) f0 f1 f2 f3 f4 f5 := by
      intro _
      simp only [value_fields.j0]
      by_cases a0 : f0 = 0
      · subst a0; rw [if_pos rfl, show ((0 : Int) == 0) = decide ((0 : Int) = 0 ∨ (0 : Int) = 1 ∨ (0 : Int) = 3) from by decide]
      rw [if_neg a0]
      by_cases a1 : f0 = 1
      · subst a1; rw [if_pos rfl, show ((1 : Int) == 1) = decide ((1 : Int) = 0 ∨ (1 : Int) = 1 ∨ (1 : Int) = 3) from by decide]
      rw [if_neg a1]
      congr 1
      rw [Bool.eq_iff_iff, beq_iff_eq, decide_eq_true_iff]
      omega
    rw [hE true]
    simp only [value_fields.j1]
    by_cases a : f0 = 0 ∨ f0 = 1 ∨ f0 = 3
    · rw [if_pos (decide_eq_true a), if_pos a, HL2.out]
      cases b <;> simp
    rw [if_neg (by simpa using a), if_neg a]
    by_cases a2 : f0 = 2
    · rw [if_pos a2, if_pos a2]
      cases b
      · simp
      · rw [if_pos rfl]
        by_cases c1 : wrap64 ((f4.length : Int) + (f5.length : Int)) = 0
        · rw [if_pos c1, HL3.out.1 c1]
          by_cases c2 : -9007199254740992 ≤ f2
          · rw [if_pos c2, decide_eq_true c2]; simp
          · rw [if_neg c2, decide_eq_false c2]; simp
        · rw [if_neg c1, Bool.eq_false_iff.2 (fun x => c1 (HL3.out.2 x))]; simp
    rw [if_neg a2, if_neg a2]
    by_cases a4 : f0 = 4
    · rw [if_pos a4, if_pos a4]
      cases b
      · simp
      · rw [if_pos rfl]
        congr 1
        rw [Bool.eq_iff_iff]
        simp [List.isEmpty_iff_length_eq_zero]
    rw [if_neg a4, if_neg a4]
    by_cases a5 : f0 = 5
    · rw [if_pos a5, if_pos a5]
      cases b
      · simp
      · rw [if_pos rfl]
        by_cases c1 : f5.length = f4.length
        · rw [if_pos (by omega), hK]; simp [c1]
        · rw [if_neg (by omega)]; simp [c1]
    · rw [if_neg a5, if_neg a5]; simp
  show value_fields.f (k + 2) f0 f1 f2 f3 f4 f5 = some (qA5 ⟨f0, f1, f2, f3, f4, f5⟩)
  unfold qA5 value_fields.f
  simp only [hj, e3]
  have b1 : (f0 == 1) = decide (f0 = 1) := by rw [Bool.eq_iff_iff, beq_iff_eq, decide_eq_true_iff]
  have b2 : (f0 == 2) = decide (f0 = 2) := by rw [Bool.eq_iff_iff, beq_iff_eq, decide_eq_true_iff]
  have b3 : (f0 == 3) = decide (f0 = 3) := by rw [Bool.eq_iff_iff, beq_iff_eq, decide_eq_true_iff]
  have b4 : (f2 == 0) = decide (f2 = 0) := by rw [Bool.eq_iff_iff, beq_iff_eq, decide_eq_true_iff]
  rw [b1, b2, b3, b4]
  generalize (if f0 = 0 ∨ f0 = 1 ∨ f0 = 3 then f4.isEmpty && f5.isEmpty else if f0 = 2 then f4.isEmpty && f5.isEmpty && decide (-9007199254740992 ≤ f2) && decide (f2 ≤ 9007199254740992) else if f0 = 4 then f5.isEmpty else if f0 = 5 then f5.length == f4.length && qAv f5 else false) = Z
  clear hK HL2 HL3 hj b1 b2 b3 b4 e3
  by_cases a1 : f0 = 1 <;> by_cases a2 : f0 = 2 <;> by_cases a3 : f0 = 3 <;> by_cases a4 : f2 = 0 <;> cases f1 <;> simp [a1, a2, a3, a4] <;> omega
def value_May.f (a0_0 : Int) (a0_1 : Bool) (a0_2 : Int) (a0_3 : ByteArray) (l0_4 : List S25) (l0_5 : List ByteArray) : Option Bool := some (mayV 16 ⟨a0_0, a0_1, a0_2, a0_3, l0_4, l0_5⟩ 0).2
set_option maxHeartbeats 1600000 in
set_option maxRecDepth 100000 in
theorem value_May.calls (a0_0 : Int) (a0_1 : Bool) (a0_2 : Int) (a0_3 : ByteArray) (A0_4 : Option Addr) (c0_4 : Nat) (l0_4 : List S25) (A0_5 : Option Addr) (c0_5 : Nat) (l0_5 : List ByteArray) (r : Bool) (w : World) (hr0_4 : Kd.C k25 w A0_4 l0_4.length l0_4) (hc0_4 : l0_4.length ≤ c0_4) (hr0_5 : Kd.C Kd.string w A0_5 l0_5.length l0_5) (hc0_5 : l0_5.length ≤ c0_5) (h : value_May.f a0_0 a0_1 a0_2 a0_3 l0_4 l0_5 = some r) :
    Calls Tryd.prog 21 #[.agg #[.int .i64 a0_0, .bool a0_1, .int .i64 a0_2, .string a0_3, .slice A0_4 l0_4.length c0_4, .slice A0_5 l0_5.length c0_5]] w fun e w' => e = .returned (.bool r) ∧ Below w.heap.size w w' := by
  cases h
  have HR4 := Aside0.mk hr0_4
  have HR5 := Aside0.mk hr0_5
  have HB := Aside0.mk (Below.refl w.heap.size w)
  clear hr0_4 hr0_5
  go_enter Tryd.func21, Tryd.ntmps21
  go_wp2_with fail
  refine (qCu 16 ⟨a0_0, a0_1, a0_2, a0_3, l0_4, l0_5⟩ 0 (w.heap.size + 1) A0_4 c0_4 A0_5 c0_5 w _ HR4.out hc0_4 HR5.out hc0_5 (qAd (qAd HB.out _) _) (by omega) (by show ((w.heap.push _).push _)[_]? = _; rw [Array.getElem?_push, if_pos (by rw [Array.size_push])]; rfl) (by omega) qGt (by omega)).mono ?_
  rintro e w2 ⟨rfl, hb2, hg2⟩
  have HB2 := Aside0.mk (qCd (qAd (qAd HB.out _) _) hg2 (show w.heap.size ≤ w.heap.size + 1 by omega))
  clear hb2 hg2
  go_wp2
  go_ret
  exact ⟨rfl, HB2.out⟩
end Go.Proofs.YtbnoihpooeombaaDoor.X

namespace Go.Proofs.YtbnoihpooeombaaDoor.X
open Go.RowKit Go.Proofs.YtbnoihpooeombaaDoorW.PrintWords Go.Proofs.YtbnoihpooeombaaDoorW.PrintLast Go.Proofs.YtbnoihpooeombaaDoorW.PrintMore Go.Proofs.YtbnoihpooeombaaDoor.P
set_option linter.unusedVariables false
set_option linter.unusedSimpArgs false
theorem qGr {α : Type} {d : Kd α} {w : World} {A : Option Addr} {n : Nat} {xs : List α} (h : d.C w A n xs) (hz : 0 < d.sz) :
    ∃ news : List Value, news.length = xs.length * d.sz ∧ Reps (d.K w) d.sz xs news ∧ (∀ ad, A = some ad → ∀ j u, news[j]? = some u → w.cell? (ad.add j) = some u) ∧ (∀ u ∈ news, u.oneCell' = true) ∧ (A = none → xs.length = 0) := by
  have hone : ∀ news : List Value, Reps (d.K w) d.sz xs news → ∀ u ∈ news, u.oneCell' = true := by
    intro news hr u hu
    obtain ⟨j, hj, rfl⟩ := List.mem_iff_getElem.1 hu
    have hl := hr.1
    have hq : j / d.sz < xs.length := by
      rw [Nat.div_lt_iff_lt_mul hz]; omega
    have hK := hr.2 (j / d.sz) _ (List.getElem?_eq_getElem hq)
    refine d.K_one hK _ ?_
    have hm : j / d.sz * d.sz + j % d.sz = j := Nat.div_add_mod' j d.sz
    have hlt := Nat.mod_lt j hz
    refine List.mem_iff_getElem?.2 ⟨j % d.sz, ?_⟩
    rw [List.getElem?_take_of_lt hlt, List.getElem?_drop, hm, List.getElem?_eq_getElem hj]
  cases A with
  | none =>
    have h0 : xs.length = 0 := by
      rcases Nat.eq_zero_or_pos n with h0 | h0
      · rw [h.1, h0]
      · obtain ⟨ad, e, _⟩ := h.2.2 h0
        cases e
    have hx : xs = [] := List.length_eq_zero_iff.1 h0
    subst hx
    exact ⟨[], by simp, Reps.none _ _, (fun ad e => by cases e), (fun u hu => by cases hu), (fun _ => rfl)⟩
  | some ad =>
    have hn : n = xs.length := h.1.symm
    subst hn
    obtain ⟨news, hr, hc⟩ := qA3.inner_ h
    exact ⟨news, hr.1, hr, fun ad2 e j u hj => by cases e; exact hc j u hj, hone news hr, fun e => by cases e⟩
theorem blk_set {w : World} {g t j : Nat} {cs : Array Value} {v : Value} (h : w.heap[g]? = some (.cells cs t (0, 0))) : (w.setCell ⟨g, j, none⟩ v).heap[g]? = some (.cells (cs.setIfInBounds j v) t (0, 0)) := by
  simp [World.setCell, Array.getElem?_modify, h]
theorem qAw {w : World} {g k j : Nat} {v : Value} (hne : k ≠ g) : (w.setCell ⟨g, j, none⟩ v).heap[k]? = w.heap[k]? := by
  simp [World.setCell, Array.getElem?_modify, Ne.symm hne]
theorem qDr (w : World) (a : Addr) (v : Value) : (w.setCell a v).heap.size = w.heap.size := by simp [World.setCell]
theorem qCb {w : World} {base e size n g j : Nat} {v u : Value} {xs : List Value} (h : w.ownsRow base e size v n xs) (hg : g < base) : (w.setCell ⟨g, j, none⟩ u).ownsRow base e size v n xs :=
  qBl h (fun k hk => qAw (by have := qA4 h k hk; omega))
theorem qBp {w w1 : World} {base e size n : Nat} {v : Value} {xs : List Value} (h : w.ownsRow base e size v n xs) (hb : Below w.heap.size w w1) : w1.ownsRow base e size v n xs :=
  qBl h (fun k hk => hb.block k (own_lt h k hk))
theorem qB9 {w : World} {g t : Nat} {v0 v1 v2 v3 v4 v5 : Value} (u0 u1 u2 u3 u4 u5 : Value) (h : w.heap[g]? = some (.cells #[v0, v1, v2, v3, v4, v5] t (0, 0))) :
    ((((((w.setCell ⟨g, 0, none⟩ u0).setCell ⟨g, 1, none⟩ u1).setCell ⟨g, 2, none⟩ u2).setCell ⟨g, 3, none⟩ u3).setCell ⟨g, 4, none⟩ u4).setCell ⟨g, 5, none⟩ u5).heap[g]? = some (.cells #[u0, u1, u2, u3, u4, u5] t (0, 0)) :=
  blk_set (blk_set (blk_set (blk_set (blk_set (blk_set h)))))
theorem qBg {w0 w : World} {g : Nat} (u0 u1 u2 u3 u4 u5 : Value) (h : Below w0.heap.size w0 w) (hg : w0.heap.size ≤ g) (o : Nat) :
    Below w0.heap.size w0 ((((((w.setCell ⟨g, o, none⟩ u0).setCell ⟨g, o + 1, none⟩ u1).setCell ⟨g, o + 2, none⟩ u2).setCell ⟨g, o + 3, none⟩ u3).setCell ⟨g, o + 4, none⟩ u4).setCell ⟨g, o + 5, none⟩ u5) :=
  qAf (qAf (qAf (qAf (qAf (qAf h hg) hg) hg) hg) hg) hg
theorem qBt {w : World} {g k : Nat} (u0 u1 u2 u3 u4 u5 : Value) (o : Nat) (hne : k ≠ g) :
    ((((((w.setCell ⟨g, o, none⟩ u0).setCell ⟨g, o + 1, none⟩ u1).setCell ⟨g, o + 2, none⟩ u2).setCell ⟨g, o + 3, none⟩ u3).setCell ⟨g, o + 4, none⟩ u4).setCell ⟨g, o + 5, none⟩ u5).heap[k]? = w.heap[k]? := by
  rw [qAw hne, qAw hne, qAw hne, qAw hne, qAw hne, qAw hne]
theorem qG5 {w : World} {g t k : Nat} {cs : Array Value} (h : w.heap[g]? = some (.cells cs t (0, 0))) (hk : k < cs.size) : ∃ v, w.cell? ⟨g, k, none⟩ = some v :=
  ⟨cs[k], by rw [qAb h k, Array.getElem?_eq_getElem hk]⟩
def six (cur : Array Value) (o : Nat) (u0 u1 u2 u3 u4 u5 : Value) : Array Value := (((((cur.setIfInBounds o u0).setIfInBounds (o + 1) u1).setIfInBounds (o + 2) u2).setIfInBounds (o + 3) u3).setIfInBounds (o + 4) u4).setIfInBounds (o + 5) u5
theorem qHo {w : World} {g t o : Nat} {cur : Array Value} (u0 u1 u2 u3 u4 u5 : Value) (h : w.heap[g]? = some (.cells cur t (0, 0))) :
    ((((((w.setCell ⟨g, o, none⟩ u0).setCell ⟨g, o + 1, none⟩ u1).setCell ⟨g, o + 2, none⟩ u2).setCell ⟨g, o + 3, none⟩ u3).setCell ⟨g, o + 4, none⟩ u4).setCell ⟨g, o + 5, none⟩ u5).heap[g]? = some (.cells (six cur o u0 u1 u2 u3 u4 u5) t (0, 0)) :=
  blk_set (blk_set (blk_set (blk_set (blk_set (blk_set h)))))
theorem qG2 (cur : Array Value) (o : Nat) (u0 u1 u2 u3 u4 u5 : Value) : (six cur o u0 u1 u2 u3 u4 u5).size = cur.size := by simp [six]
theorem qF9 (cur : Array Value) (o k : Nat) (u0 u1 u2 u3 u4 u5 : Value) (hfit : o + 6 ≤ cur.size) : (six cur o u0 u1 u2 u3 u4 u5)[k]? = if k = o + 5 then some u5 else if k = o + 4 then some u4 else if k = o + 3 then some u3 else if k = o + 2 then some u2 else if k = o + 1 then some u1 else if k = o then some u0 else cur[k]? := by
  unfold six
  simp only [Array.getElem?_setIfInBounds, Array.size_setIfInBounds]
  by_cases h5 : k = o + 5
  · rw [if_pos h5.symm, if_pos (by omega), if_pos h5]
  rw [if_neg (Ne.symm h5), if_neg h5]
  by_cases h4 : k = o + 4
  · rw [if_pos h4.symm, if_pos (by omega), if_pos h4]
  rw [if_neg (Ne.symm h4), if_neg h4]
  by_cases h3 : k = o + 3
  · rw [if_pos h3.symm, if_pos (by omega), if_pos h3]
  rw [if_neg (Ne.symm h3), if_neg h3]
  by_cases h2 : k = o + 2
  · rw [if_pos h2.symm, if_pos (by omega), if_pos h2]
  rw [if_neg (Ne.symm h2), if_neg h2]
  by_cases h1 : k = o + 1
  · rw [if_pos h1.symm, if_pos (by omega), if_pos h1]
  rw [if_neg (Ne.symm h1), if_neg h1]
  by_cases h0 : k = o
  · rw [if_pos h0.symm, if_pos (by omega), if_pos h0]
  rw [if_neg (Ne.symm h0), if_neg h0]
theorem seg_get (c : Array Value) (a q : Nat) : ((c.toList.drop a).take 6)[q]? = if q < 6 then c[a + q]? else none := by
  rw [List.getElem?_take, List.getElem?_drop]
  simp
theorem qG3 (cur : Array Value) (i : Nat) (u0 u1 u2 u3 u4 u5 : Value) (hfit : i * 6 + 6 ≤ cur.size) : ((six cur (i * 6) u0 u1 u2 u3 u4 u5).toList.drop (i * 6)).take 6 = [u0, u1, u2, u3, u4, u5] := by
  apply List.ext_getElem?
  intro q
  rw [seg_get, qF9 _ _ _ _ _ _ _ _ _ hfit]
  match q with
  | 0 => rw [if_pos (by omega), if_neg (by omega), if_neg (by omega), if_neg (by omega), if_neg (by omega), if_neg (by omega), if_pos (by omega)]; rfl
  | 1 => rw [if_pos (by omega), if_neg (by omega), if_neg (by omega), if_neg (by omega), if_neg (by omega), if_pos (by omega)]; rfl
  | 2 => rw [if_pos (by omega), if_neg (by omega), if_neg (by omega), if_neg (by omega), if_pos (by omega)]; rfl
  | 3 => rw [if_pos (by omega), if_neg (by omega), if_neg (by omega), if_pos (by omega)]; rfl
  | 4 => rw [if_pos (by omega), if_neg (by omega), if_pos (by omega)]; rfl
  | 5 => rw [if_pos (by omega), if_pos (by omega)]; rfl
  | q + 6 => rw [if_neg (by omega)]; rfl
theorem qD5 (cur : Array Value) (i j : Nat) (u0 u1 u2 u3 u4 u5 : Value) (hfit : i * 6 + 6 ≤ cur.size) (hne : j ≠ i) : ((six cur (i * 6) u0 u1 u2 u3 u4 u5).toList.drop (j * 6)).take 6 = (cur.toList.drop (j * 6)).take 6 := by
  apply List.ext_getElem?
  intro q
  rw [seg_get, seg_get, qF9 _ _ _ _ _ _ _ _ _ hfit]
  by_cases hq : q < 6
  · rw [if_pos hq, if_pos hq, if_neg (by omega), if_neg (by omega), if_neg (by omega), if_neg (by omega), if_neg (by omega), if_neg (by omega)]
  · rw [if_neg hq, if_neg hq]
theorem qB6 {w : World} {base e size n : Nat} {v : Value} {xs : List Value} (h : w.ownsRow base e size v n xs) : ∃ a c, v = .slice a n c := by
  rcases h.2 with ⟨rfl, rfl⟩ | ⟨g, cap, cur, rfl, _⟩
  · exact ⟨none, 0, rfl⟩
  · exact ⟨_, _, rfl⟩
def smallV : Nat → S25 → Prop
  | 0, _ => False
  | d + 1, x => x.f4.length ≤ 100000 ∧ x.f5.length ≤ 100000 ∧ ∀ y ∈ x.f4, smallV d y
set_option maxHeartbeats 4000000 in
set_option maxRecDepth 100000 in
theorem qEd (d : Nat) : ∀ (x : S25) (A4 : Option Addr) (c4 : Nat) (A5 : Option Addr) (c5 : Nat) (w : World) (hs : smallV d x) (hr4 : k25.C w A4 x.f4.length x.f4) (hc4 : x.f4.length ≤ c4) (hr5 : Kd.string.C w A5 x.f5.length x.f5) (hc5 : x.f5.length ≤ c5),
    Calls Tryd.prog 50 #[.agg #[.int .i64 x.f0, .bool x.f1, .int .i64 x.f2, .string x.f3, .slice A4 x.f4.length c4, .slice A5 x.f5.length c5]] w fun e w' =>
      ∃ v4 v5 : Value, e = .returned (.agg #[.int .i64 x.f0, .bool x.f1, .int .i64 x.f2, .string x.f3, v4, v5]) ∧ k25.R 25 w' w.heap.size (fun k_ => some k_ ≠ (v5 : Value).ownBlock) v4 x.f4 ∧ Kd.string.R 9 w' w.heap.size (fun _ => True) v5 x.f5 ∧ Below w.heap.size w w' := by
  induction d with
  | zero => intro x A4 c4 A5 c5 w hs; exact hs.elim
  | succ d ih =>
    intro x A4 c4 A5 c5 w hs hr4 hc4 hr5 hc5
    obtain ⟨hs4, hs5, hse⟩ := hs
    have HR4 := Aside0.mk hr4
    have HR5 := Aside0.mk hr5
    have HSE := Aside0.mk hse
    obtain ⟨n4, N4l, N4r, N4c, N4o, A4n⟩ : ∃ news : List Value, news.length = x.f4.length * 6 ∧ Reps (k25.K w) 6 x.f4 news ∧ (∀ ad, A4 = some ad → ∀ j u, news[j]? = some u → w.cell? (ad.add j) = some u) ∧ (∀ u ∈ news, u.oneCell' = true) ∧ (A4 = none → x.f4.length = 0) := qGr (d := k25) hr4 (by decide)
    obtain ⟨n5, N5l, N5r, N5c, N5o, A5n⟩ : ∃ news : List Value, news.length = x.f5.length * 1 ∧ Reps (Kd.string.K w) 1 x.f5 news ∧ (∀ ad, A5 = some ad → ∀ j u, news[j]? = some u → w.cell? (ad.add j) = some u) ∧ (∀ u ∈ news, u.oneCell' = true) ∧ (A5 = none → x.f5.length = 0) := qGr (d := Kd.string) hr5 (by decide)
    clear hr4 hr5 hse
    go_enter Tryd.func50, Tryd.ntmps50
    go_wp2_with fail
    have hB0 := qAd (qAd (Below.refl w.heap.size w) (.cells #[.int .i64 x.f0, .bool x.f1, .int .i64 x.f2, .string x.f3, .slice A4 x.f4.length c4, .slice A5 x.f5.length c5] 25)) (.cells #[.int .i64 0, .bool false, .int .i64 0, .string ⟨#[]⟩, .slice none 0 0, .slice none 0 0] 25)
    have HX0 := Aside0.mk (blk_alloc' (qA8 w (.cells #[.int .i64 x.f0, .bool x.f1, .int .i64 x.f2, .string x.f3, .slice A4 x.f4.length c4, .slice A5 x.f5.length c5] 25)) (.cells #[.int .i64 0, .bool false, .int .i64 0, .string ⟨#[]⟩, .slice none 0 0, .slice none 0 0] 25))
    have hsz1 : (w.alloc (.cells #[.int .i64 x.f0, .bool x.f1, .int .i64 x.f2, .string x.f3, .slice A4 x.f4.length c4, .slice A5 x.f5.length c5] 25)).heap.size = w.heap.size + 1 := by simp [World.alloc, -World.alloc_eq]
    have HY0 := Aside0.mk (qA8 (w.alloc (.cells #[.int .i64 x.f0, .bool x.f1, .int .i64 x.f2, .string x.f3, .slice A4 x.f4.length c4, .slice A5 x.f5.length c5] 25)) (.cells #[.int .i64 0, .bool false, .int .i64 0, .string ⟨#[]⟩, .slice none 0 0, .slice none 0 0] 25))
    rw [hsz1] at HY0
    clear hsz1
    generalize (w.alloc (.cells #[.int .i64 x.f0, .bool x.f1, .int .i64 x.f2, .string x.f3, .slice A4 x.f4.length c4, .slice A5 x.f5.length c5] 25)).alloc (.cells #[.int .i64 0, .bool false, .int .i64 0, .string ⟨#[]⟩, .slice none 0 0, .slice none 0 0] 25) = W1 at *
    refine (qEm A5 x.f5.length c5 n5 W1 A5n N5l (by omega) (fun ad e j u hj => qAo hB0 (N5c ad e j u hj)) N5o).mono ?_
    rintro e w2 ⟨v5, rfl, ho5, hb2⟩
    obtain ⟨a5, b5, rfl⟩ := qB6 ho5
    have HO5 := Aside0.mk ho5
    have HB2 := Aside0.mk (qAi hB0 hb2)
    have HX2 := Aside0.mk (qAj HX0.out hb2)
    have HY2 := Aside0.mk (qAj HY0.out hb2)
    have hW1 : w.heap.size + 1 < W1.heap.size := blk_lt HY0.out
    have hb2s := hb2.size
    clear ho5 hb2 hB0 HX0 HY0
    have hxa := qAb HX2.out 5
    have hxb := qAa HX2.out 5
    have hxc := qAb HX2.out 4
    go_wp2_with fail
    have hB3 := qAf (v := .slice a5 x.f5.length b5) (j := 5) HB2.out (Nat.le_refl _)
    have HX3 := Aside0.mk (blk_set (j := 5) (v := .slice a5 x.f5.length b5) HX2.out)
    have HY3 := Aside0.mk ((qAw (w := w2) (g := w.heap.size) (k := w.heap.size + 1) (j := 5) (v := .slice a5 x.f5.length b5) (by omega)).trans HY2.out)
    have HO5b := Aside0.mk (qCb (g := w.heap.size) (j := 5) (u := .slice a5 x.f5.length b5) HO5.out (by omega))
    have hsz3 := qDr w2 ⟨w.heap.size, 5, none⟩ (.slice a5 x.f5.length b5)
    clear hxa hxb hxc HX2 HY2 HO5 HB2
    generalize w2.setCell ⟨w.heap.size, 5, none⟩ (.slice a5 x.f5.length b5) = W3 at *
    refine (qEl A4 x.f4.length c4 n4 W3 A4n N4l (by omega) (fun ad e j u hj => qAo hB3 (N4c ad e j u hj)) N4o).mono ?_
    rintro e w4 ⟨v4, rfl, ho4, hb4⟩
    obtain ⟨a4, b4, rfl⟩ := qB6 ho4
    have hB4 := qAi hB3 hb4
    have HX4 := Aside0.mk (qAj HX3.out hb4)
    have HY4 := Aside0.mk (qAj HY3.out hb4)
    have HO5c := Aside0.mk (qBp HO5b.out hb4)
    have HO4 := Aside0.mk ho4
    have hsz4 := hb4.size
    have K5a : ∀ k, (Value.slice a5 x.f5.length b5).ownBlock = some k → k < W3.heap.size := fun k hk => own_lt HO5b.out k hk
    clear ho4 hb4 hB3 HX3 HY3 HO5b
    have hxa := qAb HX4.out 4
    have hxb := qAa HX4.out 4
    go_wp2_with fail
    have hB5 := qAf (v := .slice a4 x.f4.length b4) (j := 4) hB4 (Nat.le_refl _)
    have HX5 := Aside0.mk (blk_set (j := 4) (v := .slice a4 x.f4.length b4) HX4.out)
    have HY5 := Aside0.mk ((qAw (w := w4) (g := w.heap.size) (k := w.heap.size + 1) (j := 4) (v := .slice a4 x.f4.length b4) (by omega)).trans HY4.out)
    have HS5 := Aside0.mk (qCb (g := w.heap.size) (j := 4) (u := .slice a4 x.f4.length b4) HO5c.out (by omega))
    have HV5 := Aside0.mk (qCb (g := w.heap.size) (j := 4) (u := .slice a4 x.f4.length b4) HO4.out (by omega))
    have HB5 := Aside0.mk hB5
    clear hB4 hB5 HX4 HY4 HO5c HO4 hxa hxb
    generalize w4.setCell ⟨w.heap.size, 4, none⟩ (.slice a4 x.f4.length b4) = W5 at *
    have hX : (((#[.int .i64 x.f0, .bool x.f1, .int .i64 x.f2, .string x.f3, .slice A4 x.f4.length c4, .slice A5 x.f5.length c5] : Array Value).setIfInBounds 5 (.slice a5 x.f5.length b5)).setIfInBounds 4 (.slice a4 x.f4.length b4)) = #[.int .i64 x.f0, .bool x.f1, .int .i64 x.f2, .string x.f3, .slice a4 x.f4.length b4, .slice a5 x.f5.length b5] := rfl
    rw [hX] at HX5
    clear hX
    have HR5' := Aside0.mk (show Kd.string.R 9 W5 w.heap.size (fun _ => True) (.slice a5 x.f5.length b5) x.f5 from ⟨fun _ _ => trivial, n5, qBu HS5.out (by omega), ⟨N5r.1, fun j p hp => N5r.2 j p hp⟩⟩)
    by_cases hn : x.f4.length = 0
    · have hx4 : x.f4 = [] := List.length_eq_zero_iff.1 hn
      go_loopw [16] (fun v16 wr => v16 = .int .i64 0 ∧ wr = W5) (fun _ _ => 0)
      case atStart => exact ⟨rfl, rfl⟩
      case round =>
        obtain ⟨rfl, rfl⟩ := hrel
        have hcond : ¬ ((0 : Int) < (x.f4.length : Int)) := by omega
        have q0 := qAb HX5.out 0
        have q1 := qAb HX5.out 1
        have q2 := qAb HX5.out 2
        have q3 := qAb HX5.out 3
        have q4 := qAb HX5.out 4
        have q5 := qAb HX5.out 5
        simp only [List.getElem?_toArray, List.getElem?_cons_zero, List.getElem?_cons_succ] at q0 q1 q2 q3 q4 q5
        have p0 := qAb HY5.out 0
        have p1 := qAb HY5.out 1
        have p2 := qAb HY5.out 2
        have p3 := qAb HY5.out 3
        have p4 := qAb HY5.out 4
        have p5 := qAb HY5.out 5
        simp only [List.getElem?_toArray, List.getElem?_cons_zero, List.getElem?_cons_succ] at p0 p1 p2 p3 p4 p5
        have pf := fun k => qAa HY5.out k
        go_wp2_with fail
        have HF := Aside0.mk (qB9 (.int .i64 x.f0) (.bool x.f1) (.int .i64 x.f2) (.string x.f3) (.slice a4 0 b4) (.slice a5 x.f5.length b5) HY5.out)
        have HFB := Aside0.mk (qBg (g := w.heap.size + 1) (.int .i64 x.f0) (.bool x.f1) (.int .i64 x.f2) (.string x.f3) (.slice a4 0 b4) (.slice a5 x.f5.length b5) HB5.out (by omega) 0)
        have HFO := Aside0.mk (fun k (h : k ≠ w.heap.size + 1) => qBt (w := wr) (g := w.heap.size + 1) (k := k) (.int .i64 x.f0) (.bool x.f1) (.int .i64 x.f2) (.string x.f3) (.slice a4 0 b4) (.slice a5 x.f5.length b5) 0 h)
        simp only [Nat.zero_add] at HFB HFO
        generalize (((((wr.setCell { block := w.heap.size + 1, off := 0 } (Value.int IntKind.i64 x.f0)).setCell { block := w.heap.size + 1, off := 1 } (Value.bool x.f1)).setCell { block := w.heap.size + 1, off := 2 } (Value.int IntKind.i64 x.f2)).setCell { block := w.heap.size + 1, off := 3 } (Value.string x.f3)).setCell { block := w.heap.size + 1, off := 4 } (Value.slice a4 0 b4)).setCell { block := w.heap.size + 1, off := 5 } (Value.slice a5 x.f5.length b5) = WF at *
        have r0 := qAb HF.out 0
        have r1 := qAb HF.out 1
        have r2 := qAb HF.out 2
        have r3 := qAb HF.out 3
        have r4 := qAb HF.out 4
        have r5 := qAb HF.out 5
        simp only [List.getElem?_toArray, List.getElem?_cons_zero, List.getElem?_cons_succ] at r0 r1 r2 r3 r4 r5
        refine bodyPost_ret (v := .agg #[.int .i64 x.f0, .bool x.f1, .int .i64 x.f2, .string x.f3, .slice a4 0 b4, .slice a5 x.f5.length b5]) (by simp [results, Tryd.results50, go_sem, r0, r1, r2, r3, r4, r5]) rfl ⟨_, _, rfl, ?_, ?_, HFB.out⟩
        · have hv : WF.ownsRow W3.heap.size 25 6 (.slice a4 x.f4.length b4) x.f4.length n4 := qBl HV5.out (fun k hk => HFO.out k (by have := qA4 HV5.out k hk; omega))
          have hn4 : n4 = [] := List.length_eq_zero_iff.1 (by omega)
          rw [hn4, hx4] at hv
          exact ⟨fun k hk (e : some k = (Value.slice a5 x.f5.length b5).ownBlock) => by have h1 := qA4 hv k hk; have h2 := K5a k e.symm; omega, [], qBu hv (by omega), Reps.none _ _⟩
        · exact ⟨fun _ _ => trivial, n5, qBu (qBl HS5.out (fun k hk => HFO.out k (by have := qA4 HS5.out k hk; omega))) (by omega), ⟨N5r.1, fun j p hp => N5r.2 j p hp⟩⟩
    · rcases HV5.out.2 with ⟨_, h0⟩ | ⟨g, cap, cur0, hsl, hgb, hg, hnc, hcm, hcs, htk⟩
      · exact absurd h0 hn
      injection hsl with ha4 _ hb4
      subst ha4 hb4
      have hgp : W3.heap.size ≤ g := hgb
      have HC0 := Aside0.mk (show ∃ cur : Array Value, W5.heap[g]? = some (.cells cur 25 (0, 0)) ∧ cur.size = b4 * 6 ∧ (∀ j, j < x.f4.length → 0 ≤ j → (cur.toList.drop (j * 6)).take 6 = (n4.drop (j * 6)).take 6) ∧ (∀ j (h : j < x.f4.length), j < 0 → k25.M W5 w.heap.size (fun k => k ≠ g ∧ w.heap.size + 1 < k ∧ some k ≠ (Value.slice a5 x.f5.length b5).ownBlock) x.f4[j] ((cur.toList.drop (j * 6)).take 6)) from ⟨cur0, hg, hcs, fun j hj _ => by rw [← htk, List.drop_take, List.take_take]; congr 1; omega, fun j h hj => absurd hj (by omega)⟩)
      have K5 : Aside0 (∀ k, (Value.slice a5 x.f5.length b5).ownBlock = some k → k < W3.heap.size) := ⟨K5a⟩
      clear hg htk HV5 HR5'
      go_loopw [16] (fun v16 wr => ∃ i : Nat, v16 = .int .i64 i ∧ i ≤ x.f4.length ∧ Aside0 (Below w.heap.size w wr) ∧ Aside0 (wr.heap[w.heap.size]? = some (.cells #[.int .i64 x.f0, .bool x.f1, .int .i64 x.f2, .string x.f3, .slice (some ⟨g, 0, none⟩) x.f4.length b4, .slice a5 x.f5.length b5] 25 (0, 0))) ∧ Aside0 (wr.heap[w.heap.size + 1]? = some (.cells #[.int .i64 0, .bool false, .int .i64 0, .string ⟨#[]⟩, .slice none 0 0, .slice none 0 0] 25 (0, 0))) ∧ Aside0 (wr.ownsRow W1.heap.size 9 1 (.slice a5 x.f5.length b5) x.f5.length n5) ∧ Aside0 (∃ cur : Array Value, wr.heap[g]? = some (.cells cur 25 (0, 0)) ∧ cur.size = b4 * 6 ∧ (∀ j, j < x.f4.length → i ≤ j → (cur.toList.drop (j * 6)).take 6 = (n4.drop (j * 6)).take 6) ∧ (∀ j (h : j < x.f4.length), j < i → k25.M wr w.heap.size (fun k => k ≠ g ∧ w.heap.size + 1 < k ∧ some k ≠ (Value.slice a5 x.f5.length b5).ownBlock) x.f4[j] ((cur.toList.drop (j * 6)).take 6)))) (fun v16 _ => x.f4.length - (intOf v16).toNat)
      case atStart => exact ⟨0, rfl, by omega, HB5, HX5, HY5, HS5, HC0⟩
      case round =>
        clear HB5 HX5 HY5 HS5 HC0
        obtain ⟨i, rfl, hi, HB, HX, HY, HS, HC⟩ := hrel
        by_cases hlt : i < x.f4.length
        · obtain ⟨cur, hgc, hcu, hca, hcb⟩ := HC.out
          obtain ⟨B4, e4, B5, e5, hcells, l4, g4, l5, g5⟩ := qDv (N4r.2 i _ (List.getElem?_eq_getElem hlt))
          have hci := hca i hlt (Nat.le_refl _)
          rw [hcells] at hci
          have hfit : i * 6 + 6 ≤ cur.size := by have := Nat.mul_le_mul_right 6 (show i + 1 ≤ b4 by omega); omega
          have hcel : ∀ q u, [Value.int .i64 x.f4[i].f0, .bool x.f4[i].f1, .int .i64 x.f4[i].f2, .string x.f4[i].f3, .slice B4 x.f4[i].f4.length e4, .slice B5 x.f4[i].f5.length e5][q]? = some u → wr.cell? ⟨g, i * 6 + q, none⟩ = some u := by
            intro q u hq
            rw [qAb hgc (i * 6 + q)]
            rw [← hci, List.getElem?_take, List.getElem?_drop] at hq
            split at hq
            · simpa using hq
            · cases hq
          have y0 := hcel 0 _ rfl
          have y1 := hcel 1 _ rfl
          have y2 := hcel 2 _ rfl
          have y3 := hcel 3 _ rfl
          have y4 := hcel 4 _ rfl
          have y5 := hcel 5 _ rfl
          rw [Nat.add_zero] at y0
          have z4 := qAb HX.out 4
          simp only [List.getElem?_toArray, List.getElem?_cons_zero, List.getElem?_cons_succ] at z4
          have HYm := Aside0.mk (List.getElem_mem hlt)
          have HYe : Aside0 (x.f4[i]? = some x.f4[i]) := ⟨List.getElem?_eq_getElem hlt⟩
          generalize x.f4[i] = y at *
          clear hcel hci
          go_wp2_with fail
          have HSY := Aside0.mk (HSE.out y HYm.out)
          have G4 := Aside0.mk g4
          have G5 := Aside0.mk g5
          have HBa := Aside0.mk (qAd HB.out (.cells #[.int .i64 y.f0, .bool y.f1, .int .i64 y.f2, .string y.f3, .slice B4 y.f4.length e4, .slice B5 y.f5.length e5] 25))
          have HBr := Aside0.mk (qAd (Below.refl wr.heap.size wr) (.cells #[.int .i64 y.f0, .bool y.f1, .int .i64 y.f2, .string y.f3, .slice B4 y.f4.length e4, .slice B5 y.f5.length e5] 25))
          have HXa := Aside0.mk (qAj HX.out HBr.out)
          have HYa := Aside0.mk (qAj HY.out HBr.out)
          have HGa := Aside0.mk (qAj hgc HBr.out)
          have HBX := Aside0.mk (qA8 wr (.cells #[.int .i64 y.f0, .bool y.f1, .int .i64 y.f2, .string y.f3, .slice B4 y.f4.length e4, .slice B5 y.f5.length e5] 25))
          have HSa := Aside0.mk (qBp HS.out HBr.out)
          have HCB := Aside0.mk hcb
          have HCA := Aside0.mk hca
          have hwr := blk_lt hgc
          clear g4 g5 y0 y1 y2 y3 y4 y5 z4 hcb hca hgc HX HY HB HC HS hcells
          have hszr : (wr.alloc (.cells #[.int .i64 y.f0, .bool y.f1, .int .i64 y.f2, .string y.f3, .slice B4 y.f4.length e4, .slice B5 y.f5.length e5] 25)).heap.size = wr.heap.size + 1 := by simp [World.alloc, -World.alloc_eq]
          generalize wr.alloc (.cells #[.int .i64 y.f0, .bool y.f1, .int .i64 y.f2, .string y.f3, .slice B4 y.f4.length e4, .slice B5 y.f5.length e5] 25) = Wa at *
          have z4 := qAb HXa.out 4
          have x0 := qAb HBX.out 0
          have x1 := qAb HBX.out 1
          have x2 := qAb HBX.out 2
          have x3 := qAb HBX.out 3
          have x4 := qAb HBX.out 4
          have x5 := qAb HBX.out 5
          simp only [List.getElem?_toArray, List.getElem?_cons_zero, List.getElem?_cons_succ] at z4 x0 x1 x2 x3 x4 x5
          have hcap : i < b4 := by omega
          go_region_with (go_at_call 50; refine (ih y B4 e4 B5 e5 _ HSY.out ?s1 l4 ?s2 l5).mono ?_; (case s1 => exact Kd.C_below G4.out (by repeat (first | exact HBa.out | apply qAe | apply qAc))); (case s2 => exact Kd.C_below G5.out (by repeat (first | exact HBa.out | apply qAe | apply qAc))); rintro e w6 ⟨v4, v5, rfl, hv4, hv5, hb6⟩; obtain ⟨p4, q4, rfl⟩ := Kd.R_slice hv4; obtain ⟨p5, q5, rfl⟩ := Kd.R_slice hv5; have H6 := Aside0.mk (show Below Wa.heap.size Wa w6 from qAi (by repeat (first | exact Below.refl _ _ | apply qAe | apply qAc)) hb6); have HV4 := Aside0.mk (Kd.R_lower (base' := Wa.heap.size) hv4 (by first | exact Nat.le_refl _ | simp)); have HV5 := Aside0.mk (Kd.R_lower (base' := Wa.heap.size) hv5 (by first | exact Nat.le_refl _ | simp)); clear hv4 hv5 hb6; have z4 : w6.cell? ⟨w.heap.size, 4, none⟩ = some (.slice (some ⟨g, 0, none⟩) x.f4.length b4) := (qAb (qAj HXa.out H6.out) 4).trans rfl; have HG6 := Aside0.mk (qAj HGa.out H6.out); have hgf := fun k => qAa HG6.out k; have hgs := fun k (hk : k < b4 * 6) => qG5 HG6.out (show k < cur.size by omega); have t0 := hgs (i * 6) (by omega); have t1 := hgs (i * 6 + 1) (by omega); have t2 := hgs (i * 6 + 2) (by omega); have t3 := hgs (i * 6 + 3) (by omega); have t4 := hgs (i * 6 + 4) (by omega); have t5 := hgs (i * 6 + 5) (by omega); obtain ⟨t0v, t0⟩ := t0; obtain ⟨t1v, t1⟩ := t1; obtain ⟨t2v, t2⟩ := t2; obtain ⟨t3v, t3⟩ := t3; obtain ⟨t4v, t4⟩ := t4; obtain ⟨t5v, t5⟩ := t5)
          all_goals
            have HF := Aside0.mk (qHo (o := i * 6) (.int .i64 y.f0) (.bool y.f1) (.int .i64 y.f2) (.string y.f3) (.slice p4 y.f4.length q4) (.slice p5 y.f5.length q5) HG6.out)
            have HFB := Aside0.mk (qBg (g := g) (.int .i64 y.f0) (.bool y.f1) (.int .i64 y.f2) (.string y.f3) (.slice p4 y.f4.length q4) (.slice p5 y.f5.length q5) (qAi HBa.out H6.out) (by omega) (i * 6))
            have HFO := Aside0.mk (fun k (h : k ≠ g) => qBt (w := w6) (g := g) (k := k) (.int .i64 y.f0) (.bool y.f1) (.int .i64 y.f2) (.string y.f3) (.slice p4 y.f4.length q4) (.slice p5 y.f5.length q5) (i * 6) h)
            clear t0 t1 t2 t3 t4 t5 hgf hgs z4 x0 x1 x2 x3 x4 x5
            generalize (((((w6.setCell { block := g, off := i * 6 } (Value.int IntKind.i64 y.f0)).setCell { block := g, off := i * 6 + 1 } (Value.bool y.f1)).setCell { block := g, off := i * 6 + 2 } (Value.int IntKind.i64 y.f2)).setCell { block := g, off := i * 6 + 3 } (Value.string y.f3)).setCell { block := g, off := i * 6 + 4 } (Value.slice p4 y.f4.length q4)).setCell { block := g, off := i * 6 + 5 } (Value.slice p5 y.f5.length q5) = W7 at *
            have hga : g < Wa.heap.size := by omega
            have HXf := Aside0.mk ((HFO.out w.heap.size (by omega)).trans (qAj HXa.out H6.out))
            have HYf := Aside0.mk ((HFO.out (w.heap.size + 1) (by omega)).trans (qAj HYa.out H6.out))
            have HSf := Aside0.mk (qBl (qBp HSa.out H6.out) (fun k hk => HFO.out k (by have := K5.out k hk; omega)))
            have HMi := Aside0.mk (qEx W7 w.heap.size (fun k => k ≠ g ∧ w.heap.size + 1 < k ∧ some k ≠ (Value.slice a5 x.f5.length b5).ownBlock) y
              (Kd.R_move (Kd.R_lower (base' := w.heap.size) (Kd.R_mono (ok' := fun k => k ≠ g ∧ w.heap.size + 1 < k ∧ some k ≠ (Value.slice a5 x.f5.length b5).ownBlock) (Kd.R_bound HV4.out) (fun k hk => ⟨by have := hk.2.1; omega, by have := hk.2.1; omega, fun e => by have := K5.out k e.symm; have := hk.2.1; omega⟩)) (by omega)) (fun k hk => HFO.out k hk.1))
              (Kd.R_move (Kd.R_lower (base' := w.heap.size) (Kd.R_mono (ok' := fun k => k ≠ g ∧ w.heap.size + 1 < k ∧ some k ≠ (Value.slice a5 x.f5.length b5).ownBlock) (Kd.R_bound HV5.out) (fun k hk => ⟨by have := hk.2.1; omega, by have := hk.2.1; omega, fun e => by have := K5.out k e.symm; have := hk.2.1; omega⟩)) (by omega)) (fun k hk => HFO.out k hk.1)))
            have HCf := Aside0.mk (show ∃ cur : Array Value, W7.heap[g]? = some (.cells cur 25 (0, 0)) ∧ cur.size = b4 * 6 ∧ (∀ j, j < x.f4.length → i + 1 ≤ j → (cur.toList.drop (j * 6)).take 6 = (n4.drop (j * 6)).take 6) ∧ (∀ j (h : j < x.f4.length), j < i + 1 → k25.M W7 w.heap.size (fun k => k ≠ g ∧ w.heap.size + 1 < k ∧ some k ≠ (Value.slice a5 x.f5.length b5).ownBlock) x.f4[j] ((cur.toList.drop (j * 6)).take 6)) from
              ⟨_, HF.out, by rw [qG2]; exact hcu, fun j hj hij => by rw [qD5 _ _ _ _ _ _ _ _ _ hfit (by omega)]; exact HCA.out j hj (by omega), fun j hj hij => by
                by_cases e : j = i
                · subst e
                  rw [qG3 _ _ _ _ _ _ _ _ hfit]
                  have ey : x.f4[j] = y := Option.some.inj ((List.getElem?_eq_getElem hj).symm.trans HYe.out)
                  rw [ey]
                  exact HMi.out
                · rw [qD5 _ _ _ _ _ _ _ _ _ hfit e]
                  exact Kd.M_step (HCB.out j hj (by omega)) (fun k hk hlt => ((HFO.out k hk.1).trans (H6.out.block k (by omega))).trans (HBr.out.block k hlt))⟩)
            go_wp2
            go_roundw
            case rel => exact ⟨i + 1, by go_num, by omega, HFB, HXf, HYf, HSf, HCf⟩
            case measure => simp [intOf]; omega
        · obtain ⟨cur, hgc, hcu, hca, hcb⟩ := HC.out
          have hin : i = x.f4.length := by omega
          subst hin
          have HGC := Aside0.mk hgc
          have HCB := Aside0.mk hcb
          clear hgc hcb hca HC
          have q0 := qAb HX.out 0
          have q1 := qAb HX.out 1
          have q2 := qAb HX.out 2
          have q3 := qAb HX.out 3
          have q4 := qAb HX.out 4
          have q5 := qAb HX.out 5
          simp only [List.getElem?_toArray, List.getElem?_cons_zero, List.getElem?_cons_succ] at q0 q1 q2 q3 q4 q5
          have p0 := qAb HY.out 0
          have p1 := qAb HY.out 1
          have p2 := qAb HY.out 2
          have p3 := qAb HY.out 3
          have p4 := qAb HY.out 4
          have p5 := qAb HY.out 5
          simp only [List.getElem?_toArray, List.getElem?_cons_zero, List.getElem?_cons_succ] at p0 p1 p2 p3 p4 p5
          have pf := fun k => qAa HY.out k
          go_wp2_with fail
          have HF := Aside0.mk (qB9 (.int .i64 x.f0) (.bool x.f1) (.int .i64 x.f2) (.string x.f3) (.slice (some ⟨g, 0, none⟩) x.f4.length b4) (.slice a5 x.f5.length b5) HY.out)
          have HFB := Aside0.mk (qBg (g := w.heap.size + 1) (.int .i64 x.f0) (.bool x.f1) (.int .i64 x.f2) (.string x.f3) (.slice (some ⟨g, 0, none⟩) x.f4.length b4) (.slice a5 x.f5.length b5) HB.out (by omega) 0)
          have HFO := Aside0.mk (fun k (h : k ≠ w.heap.size + 1) => qBt (w := wr) (g := w.heap.size + 1) (k := k) (.int .i64 x.f0) (.bool x.f1) (.int .i64 x.f2) (.string x.f3) (.slice (some ⟨g, 0, none⟩) x.f4.length b4) (.slice a5 x.f5.length b5) 0 h)
          simp only [Nat.zero_add] at HFB HFO
          clear q0 q1 q2 q3 q4 q5 p0 p1 p2 p3 p4 p5 pf
          generalize (((((wr.setCell { block := w.heap.size + 1, off := 0 } (Value.int IntKind.i64 x.f0)).setCell { block := w.heap.size + 1, off := 1 } (Value.bool x.f1)).setCell { block := w.heap.size + 1, off := 2 } (Value.int IntKind.i64 x.f2)).setCell { block := w.heap.size + 1, off := 3 } (Value.string x.f3)).setCell { block := w.heap.size + 1, off := 4 } (Value.slice (some ⟨g, 0, none⟩) x.f4.length b4)).setCell { block := w.heap.size + 1, off := 5 } (Value.slice a5 x.f5.length b5) = WF at *
          have r0 := qAb HF.out 0
          have r1 := qAb HF.out 1
          have r2 := qAb HF.out 2
          have r3 := qAb HF.out 3
          have r4 := qAb HF.out 4
          have r5 := qAb HF.out 5
          simp only [List.getElem?_toArray, List.getElem?_cons_zero, List.getElem?_cons_succ] at r0 r1 r2 r3 r4 r5
          refine bodyPost_ret (v := .agg #[.int .i64 x.f0, .bool x.f1, .int .i64 x.f2, .string x.f3, .slice (some ⟨g, 0, none⟩) x.f4.length b4, .slice a5 x.f5.length b5]) (by simp [results, Tryd.results50, go_sem, r0, r1, r2, r3, r4, r5]) rfl ⟨_, _, rfl, ?_, ?_, HFB.out⟩
          · have hlen : (cur.toList.take (x.f4.length * 6)).length = x.f4.length * 6 := by
              have := Nat.mul_le_mul_right 6 hnc
              rw [List.length_take, Array.length_toList, hcu]; omega
            refine ⟨fun k hk (e : some k = (Value.slice a5 x.f5.length b5).ownBlock) => by have h1 := K5.out k e.symm; have h2 : g = k := (by simpa [Value.ownBlock] using hk); omega, cur.toList.take (x.f4.length * 6), ⟨hlen, .inr ⟨g, b4, cur, rfl, by omega, (HFO.out g (by omega)).trans HGC.out, hnc, hcm, hcu, rfl⟩⟩, hlen, fun j p hp => ?_⟩
            have hj : j < x.f4.length := (List.getElem?_eq_some_iff.1 hp).1
            have ep : x.f4[j] = p := (List.getElem?_eq_some_iff.1 hp).2
            have es : ((cur.toList.take (x.f4.length * 6)).drop (j * 6)).take 6 = (cur.toList.drop (j * 6)).take 6 := by
              rw [List.drop_take, List.take_take]; congr 1; omega
            have hM := HCB.out j hj hj
            rw [← es, ep] at hM
            exact k25.M_mono (fun k hk => ⟨hk.2.2, fun e => hk.1 (Option.some.inj e)⟩) (k25.M_move (fun k hk => HFO.out k (by have := hk.2.1; omega)) hM)
          · exact ⟨fun _ _ => trivial, n5, qBu (qBl HS.out (fun k hk => HFO.out k (by have := qA4 HS.out k hk; omega))) (by omega), ⟨N5r.1, fun j p hp => N5r.2 j p hp⟩⟩
end Go.Proofs.YtbnoihpooeombaaDoor.X

namespace Go.Proofs.YtbnoihpooeombaaDoor.P
open Go.Proofs.YtbnoihpooeombaaDoor.X
open Go.RowKit Go.Proofs.YtbnoihpooeombaaDoorW.PrintWords Go.Proofs.YtbnoihpooeombaaDoorW.PrintLast Go.Proofs.YtbnoihpooeombaaDoorW.PrintMore
attribute [local go_sem] qAr qAu
set_option linter.unusedVariables false
set_option linter.unusedSimpArgs false
def slices_Equal_string_string.l0 : Nat → List ByteArray → List ByteArray → Int → Int → Option (Bool)
 | 0, _, _, _, _ => none
 | k + 1, x0, x1, x12, x13 => if x13 < x12 then (if 0 ≤ x13 then (if x13 < (x0.length : Int) then (if x13 < (x1.length : Int) then (if (rdOf ByteArray.empty x0 x13).toList = (rdOf ByteArray.empty x1 x13).toList then (slices_Equal_string_string.l0 k x0 x1 x12 (wrap64 (x13 + 1))) else (some false)) else (none)) else (none)) else (none)) else (some true)
def slices_Equal_string_string.f (k : Nat) (l0 : List ByteArray) (l1 : List ByteArray) : Option (Bool) := if (l0.length : Int) = (l1.length : Int) then (slices_Equal_string_string.l0 k l0 l1 (l0.length : Int) 0) else (some false)
set_option maxHeartbeats 8000000 in
set_option maxRecDepth 100000 in
theorem slices_Equal_string_string.calls (k : Nat) (A0 : Option Addr) (c0 : Nat) (l0 : List ByteArray) (A1 : Option Addr) (c1 : Nat) (l1 : List ByteArray) (r : Bool) (w : World) (hr0 : Kd.C Kd.string w A0 l0.length l0) (hc0 : l0.length ≤ c0) (hr1 : Kd.C Kd.string w A1 l1.length l1) (hc1 : l1.length ≤ c1) (h : slices_Equal_string_string.f k l0 l1 = some r) :
  Calls Tryd.prog 76 #[.slice A0 l0.length c0, .slice A1 l1.length c1] w fun e w' => e = .returned (.bool r) ∧ Drawn0 w w' := by
 have HR0 := Aside0.mk hr0
 have HC0 := Aside0.mk hc0
 clear hr0 hc0
 have HR1 := Aside0.mk hr1
 have HC1 := Aside0.mk hc1
 clear hr1 hc1
 have H : (if (l0.length : Int) = (l1.length : Int) then (slices_Equal_string_string.l0 k l0 l1 (l0.length : Int) 0) else (some false)) = some r := h
 clear h
 by_cases c3 : (l0.length : Int) = (l1.length : Int)
 ·rw [if_pos c3] at H
  have c3b0 : ((l0.length : Int) == (l1.length : Int)) = true := beq_iff_eq.mpr c3
  have c3b1 : ((l0.length : Int) != (l1.length : Int)) = false := bne_eq_false_iff_eq.mpr c3
  have c3b2 : (l0.length == l1.length) = true := by first | simpa using c3 | (simp at c3 ⊢; omega)
  clear c3
  have H' := Aside0.mk H
  clear H
  go_enter Tryd.func76, Tryd.ntmps76
  go_wp2
  repeat (go_quiet (fail); try go_wp2)
  go_loopg [13] k (fun kq v13 w' => ∃ (x13_1 : Int), v13 = .int .i64 x13_1 ∧ Aside0 (slices_Equal_string_string.l0 kq l0 l1 (l0.length : Int) x13_1 = some r) ∧ Aside0 (kq ≤ k) ∧ Drawn0 w w')
  case atStart => exact ⟨(0), (by first | rfl | (simp; done) | (simp [*]; done) | exact congrArg Value.bool (nil_ne _) | exact congrArg Value.bool (nil_eq _) | exact congrArg Value.bool (nil_ne' _)), H', ⟨Nat.le_refl _⟩, by repeat (first | exact Drawn0.refl _ | apply Drawn0.step)⟩
  case round =>
   clear H'
   try clear c1
   try clear p2
   try clear c3
   try clear c3b0
   try clear c3b1
   try clear c3b2
   obtain ⟨x13_1, rfl, HA, HK1, ⟨m1, rfl⟩⟩ := hrel
   cases gk with
   | zero => exact absurd HA.out (by simp [slices_Equal_string_string.l0])
   | succ k1 =>
    have H := HA.out
    clear HA
    simp only [slices_Equal_string_string.l0] at H
    by_cases c4 : x13_1 < (l0.length : Int)
    ·rw [if_pos c4] at H
     have c4b0 : decide (x13_1 < (l0.length : Int)) = true := decide_eq_true c4
     clear c4
     by_cases c5 : 0 ≤ x13_1
     ·rw [if_pos c5] at H
      have c5b0 : decide (0 ≤ x13_1) = true := decide_eq_true c5
      clear c5
      by_cases c6 : x13_1 < (l0.length : Int)
      ·rw [if_pos c6] at H
       have c6b0 : decide (x13_1 < (l0.length : Int)) = true := decide_eq_true c6
       clear c6
       by_cases c7 : x13_1 < (l1.length : Int)
       ·rw [if_pos c7] at H
        have c7b0 : decide (x13_1 < (l1.length : Int)) = true := decide_eq_true c7
        clear c7
        by_cases c8 : (rdOf ByteArray.empty l0 x13_1).toList = (rdOf ByteArray.empty l1 x13_1).toList
        ·rw [if_pos c8] at H
         have c8b0 : ((rdOf ByteArray.empty l0 x13_1).toList == (rdOf ByteArray.empty l1 x13_1).toList) = true := beq_iff_eq.mpr c8
         have c8b1 : ((rdOf ByteArray.empty l0 x13_1).toList != (rdOf ByteArray.empty l1 x13_1).toList) = false := bne_eq_false_iff_eq.mpr c8
         clear c8
         have H' := Aside0.mk H
         clear H
         have p552 : 0 ≤ (x13_1 : Int) := of_decide_eq_true (by first | (with_reducible assumption) | assumption)
         have q552 : x13_1 < (l0.length : Int) := of_decide_eq_true (by first | (with_reducible assumption) | assumption)
         obtain ⟨ad552, e552, hx552_0⟩ := Kd.at_string HR0.out x13_1 p552 q552
         cases e552
         replace p552 := eq_true p552
         replace q552 := eq_true q552
         have p553 : 0 ≤ (x13_1 : Int) := of_decide_eq_true (by first | (with_reducible assumption) | assumption)
         have q553 : x13_1 < (l1.length : Int) := of_decide_eq_true (by first | (with_reducible assumption) | assumption)
         obtain ⟨ad553, e553, hx553_0⟩ := Kd.at_string HR1.out x13_1 p553 q553
         cases e553
         replace p553 := eq_true p553
         replace q553 := eq_true q553
         go_wp2
         repeat (go_quiet (fail); try go_wp2)
         go_roundg k1
         case measure => have := HK1.out; omega
         case rel => exact ⟨(wrap64 (x13_1 + 1)), (by first | rfl | (simp; done) | (simp [*]; done) | exact congrArg Value.bool (nil_ne _) | exact congrArg Value.bool (nil_eq _) | exact congrArg Value.bool (nil_ne' _)), H', ⟨by have := HK1.out; omega⟩, by repeat (first | exact Drawn0.refl _ | apply Drawn0.step)⟩
        ·rw [if_neg c8] at H
         have c8b0 : ((rdOf ByteArray.empty l0 x13_1).toList == (rdOf ByteArray.empty l1 x13_1).toList) = false := beq_eq_false_iff_ne.mpr c8
         have c8b1 : ((rdOf ByteArray.empty l0 x13_1).toList != (rdOf ByteArray.empty l1 x13_1).toList) = true := bne_iff_ne.mpr c8
         obtain rfl := Option.some.inj H
         have p552 : 0 ≤ (x13_1 : Int) := of_decide_eq_true (by first | (with_reducible assumption) | assumption)
         have q552 : x13_1 < (l0.length : Int) := of_decide_eq_true (by first | (with_reducible assumption) | assumption)
         obtain ⟨ad552, e552, hx552_0⟩ := Kd.at_string HR0.out x13_1 p552 q552
         cases e552
         replace p552 := eq_true p552
         replace q552 := eq_true q552
         have p553 : 0 ≤ (x13_1 : Int) := of_decide_eq_true (by first | (with_reducible assumption) | assumption)
         have q553 : x13_1 < (l1.length : Int) := of_decide_eq_true (by first | (with_reducible assumption) | assumption)
         obtain ⟨ad553, e553, hx553_0⟩ := Kd.at_string HR1.out x13_1 p553 q553
         cases e553
         replace p553 := eq_true p553
         replace q553 := eq_true q553
         go_wp2
         repeat (go_quiet (fail); try go_wp2)
         go_ret
         exact ⟨by first | rfl | (simp; done) | (simp [*]; done), by repeat (first | exact Drawn0.refl _ | apply Drawn0.step)⟩
       ·rw [if_neg c7] at H
        exact absurd H (by simp)
      ·rw [if_neg c6] at H
       exact absurd H (by simp)
     ·rw [if_neg c5] at H
      exact absurd H (by simp)
    ·rw [if_neg c4] at H
     have c4b0 : decide (x13_1 < (l0.length : Int)) = false := decide_eq_false c4
     clear c4
     obtain rfl := Option.some.inj H
     go_wp2
     repeat (go_quiet (fail); try go_wp2)
     go_ret
     exact ⟨by first | rfl | (simp; done) | (simp [*]; done), by repeat (first | exact Drawn0.refl _ | apply Drawn0.step)⟩
 ·rw [if_neg c3] at H
  have c3b0 : ((l0.length : Int) == (l1.length : Int)) = false := beq_eq_false_iff_ne.mpr c3
  have c3b1 : ((l0.length : Int) != (l1.length : Int)) = true := bne_iff_ne.mpr c3
  have c3b2 : (l0.length == l1.length) = false := by first | simpa using c3 | (simp at c3 ⊢; omega)
  obtain rfl := Option.some.inj H
  go_enter Tryd.func76, Tryd.ntmps76
  go_wp2
  repeat (go_quiet (fail); try go_wp2)
  go_ret
  exact ⟨by first | rfl | (simp; done) | (simp [*]; done), by repeat (first | exact Drawn0.refl _ | apply Drawn0.step)⟩
end Go.Proofs.YtbnoihpooeombaaDoor.P

namespace Go.Proofs.YtbnoihpooeombaaDoor.X
open Go.RowKit Go.Proofs.YtbnoihpooeombaaDoorW.PrintWords Go.Proofs.YtbnoihpooeombaaDoorW.PrintLast Go.Proofs.YtbnoihpooeombaaDoorW.PrintMore Go.Proofs.YtbnoihpooeombaaDoor.P
set_option linter.unusedVariables false
set_option linter.unusedSimpArgs false
def allEq (f : S25 → S25 → Bool) : List S25 → List S25 → Bool
  | [], [] => true
  | x :: l, y :: m => f x y && allEq f l m
  | _, _ => false
def sameV : Nat → S25 → S25 → Bool
  | 0, _, _ => false
  | d + 1, a, b => a.f0 == b.f0 && (a.f1 == b.f1 && (a.f2 == b.f2 && (a.f3.toList == b.f3.toList && (decide (a.f5 = b.f5) && allEq (sameV d) a.f4 b.f4))))
theorem qDa (f : S25 → S25 → Bool) : ∀ l m, l.length ≠ m.length → allEq f l m = false
  | [], [], h => absurd rfl h
  | [], _ :: _, _ => rfl
  | _ :: _, [], _ => rfl
  | x :: l, y :: m, h => by
    rw [allEq, qDa f l m (fun e => h (by simp [e])), Bool.and_false]
theorem qBd (a b : ByteArray) : a.toList = b.toList ↔ a = b := by
  rw [ByteArray.toList_eq, ByteArray.toList_eq]
  exact ⟨fun h => ByteArray.ext (Array.ext' h), fun h => by rw [h]⟩
theorem eqS_l0 (a b : List ByteArray) (h : a.length = b.length) (hn : a.length ≤ 9223372036854775807) : ∀ (d i : Nat), a.length - i = d → i ≤ a.length → Ev (fun k => slices_Equal_string_string.l0 k a b (a.length : Int) (i : Int)) (decide (a.drop i = b.drop i)) := by
  intro d
  induction d with
  | zero =>
    intro i hd hi
    refine ⟨1, fun k hk => ?_⟩
    obtain ⟨k, rfl⟩ : ∃ m, k = m + 1 := ⟨k - 1, by omega⟩
    simp only [slices_Equal_string_string.l0]
    rw [if_neg (by omega), List.drop_eq_nil_of_le (by omega), List.drop_eq_nil_of_le (by omega)]
    rfl
  | succ d ih =>
    intro i hd hi
    have hlt : i < a.length := by omega
    have hlt2 : i < b.length := by omega
    obtain ⟨K, hK⟩ := ih (i + 1) (by omega) (by omega)
    refine ⟨K + 1, fun k hk => ?_⟩
    obtain ⟨k, rfl⟩ : ∃ m, k = m + 1 := ⟨k - 1, by omega⟩
    have hK := hK k (by omega)
    simp only at hK
    simp only [slices_Equal_string_string.l0]
    rw [if_pos (by omega), if_pos (by omega), if_pos (by omega), if_pos (by omega), qAx a i hlt, qAx b i hlt2, List.drop_eq_getElem_cons hlt, List.drop_eq_getElem_cons hlt2]
    by_cases e : a[i] = b[i]
    · rw [if_pos (by rw [e]), wrap_i i a.length hlt hn, hK, e]
      congr 1
      rw [decide_eq_decide, List.cons.injEq]
      simp only [true_and]
    · rw [if_neg (fun x => e ((qBd _ _).1 x))]
      congr 1
      symm
      rw [decide_eq_false_iff_not, List.cons.injEq]
      exact fun x => e x.1
theorem eqS_eq (a b : List ByteArray) (hn : a.length ≤ 9223372036854775807) : Ev (fun k => slices_Equal_string_string.f k a b) (decide (a = b)) := by
  by_cases h : a.length = b.length
  · obtain ⟨K, hK⟩ := eqS_l0 a b h hn a.length 0 (by omega) (by omega)
    refine ⟨K, fun k hk => ?_⟩
    have := hK k hk
    show slices_Equal_string_string.f k a b = _
    unfold slices_Equal_string_string.f
    rw [if_pos (by omega)]
    exact this
  · refine ⟨0, fun k hk => ?_⟩
    show slices_Equal_string_string.f k a b = _
    unfold slices_Equal_string_string.f
    rw [if_neg (by omega), decide_eq_false (fun e => h (by rw [e]))]
set_option maxHeartbeats 4000000 in
set_option maxRecDepth 100000 in
theorem qC9 (d : Nat) (ih : ∀ (x y : S25) (A4 : Option Addr) (c4 : Nat) (A5 : Option Addr) (c5 : Nat) (B4 : Option Addr) (e4 : Nat) (B5 : Option Addr) (e5 : Nat) (w : World), smallV d x → k25.C w A4 x.f4.length x.f4 → x.f4.length ≤ c4 → Kd.string.C w A5 x.f5.length x.f5 → x.f5.length ≤ c5 → k25.C w B4 y.f4.length y.f4 → y.f4.length ≤ e4 → Kd.string.C w B5 y.f5.length y.f5 → y.f5.length ≤ e5 →
      Calls Tryd.prog 54 #[.agg #[.int .i64 x.f0, .bool x.f1, .int .i64 x.f2, .string x.f3, .slice A4 x.f4.length c4, .slice A5 x.f5.length c5], .agg #[.int .i64 y.f0, .bool y.f1, .int .i64 y.f2, .string y.f3, .slice B4 y.f4.length e4, .slice B5 y.f5.length e5]] w fun e w' => e = .returned (.bool (sameV d x y)) ∧ Below w.heap.size w w')
    (l m : List S25) (A : Option Addr) (c : Nat) (B : Option Addr) (e : Nat) (w : World) (hs : ∀ y ∈ l, smallV d y) (hl : k25.C w A l.length l) (hc : l.length ≤ c) (hm : k25.C w B m.length m) (he : m.length ≤ e) :
    Calls Tryd.prog 77 #[.slice A l.length c, .slice B m.length e, .func (.func 54) #[] #[]] w fun e w' => e = .returned (.bool (allEq (sameV d) l m)) ∧ Below w.heap.size w w' := by
  have HL := Aside0.mk hl
  have HM := Aside0.mk hm
  have HS := Aside0.mk hs
  have HI := Aside0.mk ih
  have hlm : l.length ≤ 9223372036854775807 := hl.2.1
  clear hl hm hs ih
  by_cases hlen : l.length = m.length
  · have hne : ((l.length : Int) != (m.length : Int)) = false := by rw [hlen]; simp
    have HN := Aside0.mk hlen
    clear hlen
    go_enter Tryd.func77, Tryd.ntmps77
    go_wp2
    go_loopw [17] (fun v17 wr => ∃ i : Nat, v17 = .int .i64 i ∧ i ≤ l.length ∧ Aside0 (Below w.heap.size w wr) ∧ Aside0 (allEq (sameV d) l m = allEq (sameV d) (l.drop i) (m.drop i))) (fun v17 _ => l.length - (intOf v17).toNat)
    case atStart => exact ⟨0, rfl, by omega, ⟨Below.refl _ _⟩, ⟨by rw [List.drop_zero, List.drop_zero]⟩⟩
    case round =>
      obtain ⟨i, rfl, hi, HB, HE⟩ := hrel
      by_cases hlt : i < l.length
      · have hlt2 : i < m.length := by have := HN.out; omega
        obtain ⟨ad, A4, a4, A5, a5, rfl, z0, z1, z2, z3, z4, z5, l4, g4, l5, g5⟩ := at_T25 (Kd.C_below HL.out HB.out) (i : Int) (by omega) (by omega)
        obtain ⟨bd, B4, b4, B5, b5, rfl, y0, y1, y2, y3, y4, y5, m4, h4, m5, h5⟩ := at_T25 (Kd.C_below HM.out HB.out) (i : Int) (by omega) (by omega)
        simp only [Int.toNat_natCast] at z0 z1 z2 z3 z4 z5 y0 y1 y2 y3 y4 y5
        have G4 := Aside0.mk g4
        have G5 := Aside0.mk g5
        have H4 := Aside0.mk h4
        have H5 := Aside0.mk h5
        clear g4 g5 h4 h5
        have HX := Aside0.mk (show rd_T25 l (i : Int) = l[i] from by simp [rd_T25, List.getD_eq_getElem?_getD, hlt])
        have HY := Aside0.mk (show rd_T25 m (i : Int) = m[i] from by simp [rd_T25, List.getD_eq_getElem?_getD, hlt2])
        have HSx := Aside0.mk (HS.out _ (List.getElem_mem hlt))
        rw [← HX.out] at HSx
        generalize rd_T25 l (i : Int) = x at *
        generalize rd_T25 m (i : Int) = y at *
        have hib : (i : Int) < (m.length : Int) := by omega
        have HBb := Aside0.mk (qAd (Below.refl wr.heap.size wr) (.cells #[.int .i64 x.f0, .bool x.f1, .int .i64 x.f2, .string x.f3, .slice A4 x.f4.length a4, .slice A5 x.f5.length a5] 25))
        have w0 := qAo HBb.out y0
        have w1 := qAo HBb.out y1
        have w2 := qAo HBb.out y2
        have w3 := qAo HBb.out y3
        have w4 := qAo HBb.out y4
        have w5 := qAo HBb.out y5
        clear y0 y1 y2 y3 y4 y5
        go_wp2_with fail
        refine (HI.out x y A4 a4 A5 a5 B4 b4 B5 b5 _ HSx.out (Kd.C_alloc (Kd.C_alloc G4.out _) _) l4 (Kd.C_alloc (Kd.C_alloc G5.out _) _) l5 (Kd.C_alloc (Kd.C_alloc H4.out _) _) m4 (Kd.C_alloc (Kd.C_alloc H5.out _) _) m5).mono ?_
        rintro e w9 ⟨rfl, hb9⟩
        have HB9 := Aside0.mk (qAi (qAd (qAd HB.out _) _) hb9)
        have HD := Aside0.mk (show allEq (sameV d) (l.drop i) (m.drop i) = (sameV d x y && allEq (sameV d) (l.drop (i + 1)) (m.drop (i + 1))) from by
          rw [HX.out, HY.out, List.drop_eq_getElem_cons hlt, List.drop_eq_getElem_cons hlt2]; rfl)
        clear hb9
        generalize sameV d x y = sb at *
        cases sb with
        | false =>
          go_wp2
          go_ret
          exact ⟨by rw [HE.out, HD.out]; rfl, HB9.out⟩
        | true =>
          go_wp2
          go_roundw
          case rel => exact ⟨i + 1, by go_num, by omega, HB9, ⟨by rw [HE.out, HD.out]; rfl⟩⟩
          case measure => simp [intOf]; omega
      · have hin : i = l.length := by omega
        subst hin
        go_wp2
        go_ret
        refine ⟨?_, HB.out⟩
        rw [HE.out, List.drop_length, List.drop_eq_nil_of_le (by have := HN.out; omega)]; rfl
  · have hne : ((l.length : Int) != (m.length : Int)) = true := by simp; omega
    have HE := Aside0.mk (qDa (sameV d) l m hlen)
    clear hlen
    go_enter Tryd.func77, Tryd.ntmps77
    go_wp2
    go_ret
    exact ⟨by rw [HE.out]; rfl, Below.refl _ _⟩
set_option maxHeartbeats 6400000 in
set_option maxRecDepth 100000 in
theorem qFp (d : Nat) : ∀ (x y : S25) (A4 : Option Addr) (c4 : Nat) (A5 : Option Addr) (c5 : Nat) (B4 : Option Addr) (e4 : Nat) (B5 : Option Addr) (e5 : Nat) (w : World), smallV d x → k25.C w A4 x.f4.length x.f4 → x.f4.length ≤ c4 → Kd.string.C w A5 x.f5.length x.f5 → x.f5.length ≤ c5 → k25.C w B4 y.f4.length y.f4 → y.f4.length ≤ e4 → Kd.string.C w B5 y.f5.length y.f5 → y.f5.length ≤ e5 →
      Calls Tryd.prog 54 #[.agg #[.int .i64 x.f0, .bool x.f1, .int .i64 x.f2, .string x.f3, .slice A4 x.f4.length c4, .slice A5 x.f5.length c5], .agg #[.int .i64 y.f0, .bool y.f1, .int .i64 y.f2, .string y.f3, .slice B4 y.f4.length e4, .slice B5 y.f5.length e5]] w fun e w' => e = .returned (.bool (sameV d x y)) ∧ Below w.heap.size w w' := by
  induction d with
  | zero => intro x y A4 c4 A5 c5 B4 e4 B5 e5 w hs; exact hs.elim
  | succ d ih =>
    intro x y A4 c4 A5 c5 B4 e4 B5 e5 w hs hx4 hc4 hx5 hc5 hy4 he4 hy5 he5
    obtain ⟨K, hK⟩ := eqS_eq x.f5 y.f5 hx5.2.1
    have HK := Aside0.mk (hK K (Nat.le_refl _))
    have X4 := Aside0.mk hx4
    have X5 := Aside0.mk hx5
    have Y4 := Aside0.mk hy4
    have Y5 := Aside0.mk hy5
    have HI := Aside0.mk ih
    have HS := Aside0.mk hs.2.2
    have HV := Aside0.mk (show sameV (d + 1) x y = (x.f0 == y.f0 && (x.f1 == y.f1 && (x.f2 == y.f2 && (x.f3.toList == y.f3.toList && (decide (x.f5 = y.f5) && allEq (sameV d) x.f4 y.f4))))) from rfl)
    have HB := Aside0.mk (Below.refl w.heap.size w)
    clear hK hx4 hx5 hy4 hy5 ih hs
    cases h0 : (x.f0 == y.f0) with
    | false =>
      rw [h0] at HV
      go_enter Tryd.func54, Tryd.ntmps54
      go_wp2
      go_ret
      exact ⟨by rw [HV.out]; rfl, qAd (qAd HB.out _) _⟩
    | true =>
    cases h1 : (x.f1 == y.f1) with
    | false =>
      rw [h0, h1] at HV
      go_enter Tryd.func54, Tryd.ntmps54
      go_wp2
      go_ret
      exact ⟨by rw [HV.out]; rfl, qAd (qAd HB.out _) _⟩
    | true =>
    cases h2 : (x.f2 == y.f2) with
    | false =>
      rw [h0, h1, h2] at HV
      go_enter Tryd.func54, Tryd.ntmps54
      go_wp2
      go_ret
      exact ⟨by rw [HV.out]; rfl, qAd (qAd HB.out _) _⟩
    | true =>
    cases h3 : (x.f3.toList == y.f3.toList) with
    | false =>
      rw [h0, h1, h2, h3] at HV
      go_enter Tryd.func54, Tryd.ntmps54
      go_wp2
      go_ret
      exact ⟨by rw [HV.out]; rfl, qAd (qAd HB.out _) _⟩
    | true =>
    rw [h0, h1, h2, h3] at HV
    obtain ⟨kb, hkb⟩ : ∃ kb, decide (x.f5 = y.f5) = kb := ⟨_, rfl⟩
    rw [hkb] at HV HK
    clear hkb
    cases kb with
    | false =>
      go_enter Tryd.func54, Tryd.ntmps54
      go_wp2_with (go_at_call 76; refine (slices_Equal_string_string.calls K _ _ x.f5 _ _ y.f5 false _ (Kd.C_alloc (Kd.C_alloc X5.out _) _) hc5 (Kd.C_alloc (Kd.C_alloc Y5.out _) _) he5 HK.out).mono ?_; rintro e w9 ⟨rfl, ⟨nd, rfl⟩⟩)
      go_ret
      exact ⟨by rw [HV.out]; rfl, qAc (qAd (qAd HB.out _) _) _⟩
    | true =>
      go_enter Tryd.func54, Tryd.ntmps54
      go_wp2_with (first | (go_at_call 76; refine (slices_Equal_string_string.calls K _ _ x.f5 _ _ y.f5 true _ (Kd.C_alloc (Kd.C_alloc X5.out _) _) hc5 (Kd.C_alloc (Kd.C_alloc Y5.out _) _) he5 HK.out).mono ?_; rintro e w9 ⟨rfl, ⟨nd, rfl⟩⟩) | (go_at_call 77; refine (qC9 d HI.out x.f4 y.f4 _ _ _ _ _ HS.out (Kd.C_drewN (Kd.C_alloc (Kd.C_alloc X4.out _) _) _) hc4 (Kd.C_drewN (Kd.C_alloc (Kd.C_alloc Y4.out _) _) _) he4).mono ?_; rintro e w9 ⟨rfl, hb9⟩))
      go_ret
      exact ⟨by rw [HV.out]; rfl, qAi (qAc (qAd (qAd HB.out _) _) _) hb9⟩
end Go.Proofs.YtbnoihpooeombaaDoor.X

namespace Go.Proofs.YtbnoihpooeombaaDoor.X
open Go.RowKit Go.Proofs.YtbnoihpooeombaaDoorW.PrintWords Go.Proofs.YtbnoihpooeombaaDoorW.PrintLast Go.Proofs.YtbnoihpooeombaaDoorW.PrintMore Go.Proofs.YtbnoihpooeombaaDoor.P
set_option linter.unusedVariables false
set_option linter.unusedSimpArgs false
theorem qFj (f : S25 → Nat → Nat × Bool) (hf : ∀ x n, n + 1 ≤ (f x n).1) : ∀ l n, (mayL f l n).2 = true → n + l.length ≤ (mayL f l n).1 ∧ ∀ y ∈ l, ∃ m, (f y m).2 = true
  | [], n, _ => ⟨by simp [mayL], fun y hy => by cases hy⟩
  | x :: l, n, h => by
    unfold mayL at h ⊢
    by_cases c : (f x n).2 = true
    · rw [if_pos c] at h ⊢
      obtain ⟨h1, h2⟩ := qFj f hf l _ h
      have := hf x n
      refine ⟨by rw [List.length_cons]; omega, fun y hy => ?_⟩
      rcases List.mem_cons.1 hy with rfl | hy
      · exact ⟨n, c⟩
      · exact h2 y hy
    · rw [if_neg c] at h; cases h
theorem qGm (f : S25 → Nat → Nat × Bool) (hf : ∀ x n, n + 1 ≤ (f x n).1) : ∀ l n, n ≤ (mayL f l n).1
  | [], n => by simp [mayL]
  | x :: l, n => by
    have := hf x n
    unfold mayL
    by_cases c : (f x n).2 = true
    · rw [if_pos c]; have := qGm f hf l (f x n).1; omega
    · rw [if_neg c]; simp only; omega
theorem qGk : ∀ d x n, n + 1 ≤ (mayV d x n).1
  | 0, x, n => by simp [mayV]
  | d + 1, x, n => by
    unfold mayV
    by_cases c : n + 1 > 4000
    · rw [if_pos c]; simp
    · rw [if_neg c]
      by_cases c2 : qA5 x = true
      · rw [if_pos c2]; exact qGm _ (qGk d) _ _
      · rw [if_neg c2]; simp
theorem qE6 (x : S25) (h : qA5 x = true) : x.f5.length = 0 ∨ x.f5.length = x.f4.length := by
  unfold qA5 at h
  rw [Bool.and_eq_true] at h
  replace h := h.2
  split at h
  · left; simp at h; simp [h.2]
  split at h
  · left; simp at h; simp [h]
  split at h
  · left; simpa using h
  split at h
  · right; simp at h; exact h.1
  · cases h
theorem qBq : ∀ d x n, n ≤ 4000 → (mayV d x n).2 = true → smallV d x
  | 0, x, n, _, h => by simp [mayV] at h
  | d + 1, x, n, hn, h => by
    have hle := (qEv (d + 1) x n hn).2 h
    unfold mayV at h hle
    by_cases c : n + 1 > 4000
    · rw [if_pos c] at h; cases h
    · rw [if_neg c] at h hle
      by_cases c2 : qA5 x = true
      · rw [if_pos c2] at h hle
        obtain ⟨h1, h2⟩ := qFj _ (qGk d) _ _ h
        have hk := qE6 x c2
        refine ⟨by omega, by omega, fun y hy => ?_⟩
        obtain ⟨m, hm⟩ := h2 y hy
        by_cases hm4 : m ≤ 4000
        · exact qBq d y m hm4 hm
        · cases d with
          | zero => simp [mayV] at hm
          | succ d =>
            unfold mayV at hm
            rw [if_pos (by omega)] at hm
            cases hm
      · rw [if_neg c2] at h; cases h
theorem qBo (w : World) (A B : Array Value) (t t' : TypeId) : ((w.alloc (.cells A t)).alloc (.cells B t')).heap[w.heap.size]? = some (.cells A t (0, 0)) ∧ ((w.alloc (.cells A t)).alloc (.cells B t')).heap[w.heap.size + 1]? = some (.cells B t' (0, 0)) := by
  refine ⟨blk_alloc' (qA8 w _) _, ?_⟩
  have := qA8 (w.alloc (.cells A t)) (.cells B t')
  rw [show (w.alloc (.cells A t)).heap.size = w.heap.size + 1 by simp [World.alloc, -World.alloc_eq]] at this
  exact this
theorem qAm {w : World} {g t : Nat} {u0 u1 u2 u3 u4 u5 : Value} (h : w.heap[g]? = some (.cells #[u0, u1, u2, u3, u4, u5] t (0, 0))) : w.cell? ⟨g, 0, none⟩ = some u0 ∧ w.cell? ⟨g, 1, none⟩ = some u1 ∧ w.cell? ⟨g, 2, none⟩ = some u2 ∧ w.cell? ⟨g, 3, none⟩ = some u3 ∧ w.cell? ⟨g, 4, none⟩ = some u4 ∧ w.cell? ⟨g, 5, none⟩ = some u5 :=
  ⟨(qAb h 0).trans rfl, (qAb h 1).trans rfl, (qAb h 2).trans rfl, (qAb h 3).trans rfl, (qAb h 4).trans rfl, (qAb h 5).trans rfl⟩
def value_Same.f (a0_0 : Int) (a0_1 : Bool) (a0_2 : Int) (a0_3 : ByteArray) (l0_4 : List S25) (l0_5 : List ByteArray) (a1_0 : Int) (a1_1 : Bool) (a1_2 : Int) (a1_3 : ByteArray) (l1_4 : List S25) (l1_5 : List ByteArray) : Option Bool :=
  some ((mayV 16 ⟨a0_0, a0_1, a0_2, a0_3, l0_4, l0_5⟩ 0).2 && ((mayV 16 ⟨a1_0, a1_1, a1_2, a1_3, l1_4, l1_5⟩ 0).2 && sameV 16 ⟨a0_0, a0_1, a0_2, a0_3, l0_4, l0_5⟩ ⟨a1_0, a1_1, a1_2, a1_3, l1_4, l1_5⟩))
set_option maxHeartbeats 1600000 in
set_option maxRecDepth 100000 in
theorem value_Same.calls (a0_0 : Int) (a0_1 : Bool) (a0_2 : Int) (a0_3 : ByteArray) (A0_4 : Option Addr) (c0_4 : Nat) (l0_4 : List S25) (A0_5 : Option Addr) (c0_5 : Nat) (l0_5 : List ByteArray) (a1_0 : Int) (a1_1 : Bool) (a1_2 : Int) (a1_3 : ByteArray) (A1_4 : Option Addr) (c1_4 : Nat) (l1_4 : List S25) (A1_5 : Option Addr) (c1_5 : Nat) (l1_5 : List ByteArray) (r : Bool) (w : World)
    (hr0_4 : Kd.C k25 w A0_4 l0_4.length l0_4) (hc0_4 : l0_4.length ≤ c0_4) (hr0_5 : Kd.C Kd.string w A0_5 l0_5.length l0_5) (hc0_5 : l0_5.length ≤ c0_5) (hr1_4 : Kd.C k25 w A1_4 l1_4.length l1_4) (hc1_4 : l1_4.length ≤ c1_4) (hr1_5 : Kd.C Kd.string w A1_5 l1_5.length l1_5) (hc1_5 : l1_5.length ≤ c1_5)
    (h : value_Same.f a0_0 a0_1 a0_2 a0_3 l0_4 l0_5 a1_0 a1_1 a1_2 a1_3 l1_4 l1_5 = some r) :
    Calls Tryd.prog 23 #[.agg #[.int .i64 a0_0, .bool a0_1, .int .i64 a0_2, .string a0_3, .slice A0_4 l0_4.length c0_4, .slice A0_5 l0_5.length c0_5], .agg #[.int .i64 a1_0, .bool a1_1, .int .i64 a1_2, .string a1_3, .slice A1_4 l1_4.length c1_4, .slice A1_5 l1_5.length c1_5]] w fun e w' => e = .returned (.bool r) ∧ Below w.heap.size w w' := by
  cases h
  have X4 := Aside0.mk hr0_4
  have X5 := Aside0.mk hr0_5
  have Y4 := Aside0.mk hr1_4
  have Y5 := Aside0.mk hr1_5
  have HB := Aside0.mk (Below.refl w.heap.size w)
  have HS := Aside0.mk (qBq 16 ⟨a0_0, a0_1, a0_2, a0_3, l0_4, l0_5⟩ 0 (by omega))
  have hm1 : value_May.f a0_0 a0_1 a0_2 a0_3 l0_4 l0_5 = some (mayV 16 ⟨a0_0, a0_1, a0_2, a0_3, l0_4, l0_5⟩ 0).2 := rfl
  have hm2 : value_May.f a1_0 a1_1 a1_2 a1_3 l1_4 l1_5 = some (mayV 16 ⟨a1_0, a1_1, a1_2, a1_3, l1_4, l1_5⟩ 0).2 := rfl
  generalize (mayV 16 ⟨a0_0, a0_1, a0_2, a0_3, l0_4, l0_5⟩ 0).2 = b1 at *
  generalize (mayV 16 ⟨a1_0, a1_1, a1_2, a1_3, l1_4, l1_5⟩ 0).2 = b2 at *
  have M1 := Aside0.mk hm1
  have M2 := Aside0.mk hm2
  clear hm1 hm2 hr0_4 hr0_5 hr1_4 hr1_5
  cases b1 with
  | false =>
    go_enter Tryd.func23, Tryd.ntmps23
    go_wp2_with (go_at_call 21; refine (value_May.calls a0_0 a0_1 a0_2 a0_3 _ _ l0_4 _ _ l0_5 false _ (Kd.C_alloc (Kd.C_alloc X4.out _) _) hc0_4 (Kd.C_alloc (Kd.C_alloc X5.out _) _) hc0_5 M1.out).mono ?_; rintro e w2 ⟨rfl, hb2⟩)
    go_ret
    exact ⟨rfl, qAi (qAd (qAd HB.out _) _) hb2⟩
  | true =>
    have HS1 := HS.out rfl
    have HS2 := Aside0.mk HS1
    clear HS HS1
    go_enter Tryd.func23, Tryd.ntmps23
    go_wp2_with fail
    refine (value_May.calls a0_0 a0_1 a0_2 a0_3 _ _ l0_4 _ _ l0_5 true _ (Kd.C_alloc (Kd.C_alloc X4.out _) _) hc0_4 (Kd.C_alloc (Kd.C_alloc X5.out _) _) hc0_5 M1.out).mono ?_
    rintro e w2 ⟨rfl, hb2⟩
    have HB2 := Aside0.mk (qAi (qAd (qAd HB.out _) _) hb2)
    have TB := qBo w #[.int .i64 a0_0, .bool a0_1, .int .i64 a0_2, .string a0_3, .slice A0_4 l0_4.length c0_4, .slice A0_5 l0_5.length c0_5] #[.int .i64 a1_0, .bool a1_1, .int .i64 a1_2, .string a1_3, .slice A1_4 l1_4.length c1_4, .slice A1_5 l1_5.length c1_5] 25 25
    have BA := Aside0.mk (qAj TB.1 hb2)
    have BB := Aside0.mk (qAj TB.2 hb2)
    clear TB hb2
    obtain ⟨x0, x1, x2, x3, x4, x5⟩ := qAm BA.out
    obtain ⟨y0, y1, y2, y3, y4, y5⟩ := qAm BB.out
    cases b2 with
    | false =>
      go_wp2_with (go_at_call 21; refine (value_May.calls a1_0 a1_1 a1_2 a1_3 _ _ l1_4 _ _ l1_5 false _ (Kd.C_below Y4.out HB2.out) hc1_4 (Kd.C_below Y5.out HB2.out) hc1_5 M2.out).mono ?_; rintro e w3 ⟨rfl, hb3⟩)
      go_ret
      exact ⟨rfl, qAi HB2.out hb3⟩
    | true =>
      go_wp2_with fail
      refine (value_May.calls a1_0 a1_1 a1_2 a1_3 _ _ l1_4 _ _ l1_5 true _ (Kd.C_below Y4.out HB2.out) hc1_4 (Kd.C_below Y5.out HB2.out) hc1_5 M2.out).mono ?_
      rintro e w3 ⟨rfl, hb3⟩
      have HB3 := Aside0.mk (qAi HB2.out hb3)
      have BA3 := Aside0.mk (qAj BA.out hb3)
      have BB3 := Aside0.mk (qAj BB.out hb3)
      clear hb3 x0 x1 x2 x3 x4 x5 y0 y1 y2 y3 y4 y5
      obtain ⟨x0, x1, x2, x3, x4, x5⟩ := qAm BA3.out
      obtain ⟨y0, y1, y2, y3, y4, y5⟩ := qAm BB3.out
      go_wp2_with fail
      refine (qFp 16 ⟨a0_0, a0_1, a0_2, a0_3, l0_4, l0_5⟩ ⟨a1_0, a1_1, a1_2, a1_3, l1_4, l1_5⟩ _ _ _ _ _ _ _ _ _ HS2.out (Kd.C_below X4.out HB3.out) hc0_4 (Kd.C_below X5.out HB3.out) hc0_5 (Kd.C_below Y4.out HB3.out) hc1_4 (Kd.C_below Y5.out HB3.out) hc1_5).mono ?_
      rintro e w4 ⟨rfl, hb4⟩
      have HB4 := Aside0.mk (qAi HB3.out hb4)
      clear hb4 x0 x1 x2 x3 x4 x5 y0 y1 y2 y3 y4 y5
      go_wp2
      go_ret
      exact ⟨rfl, HB4.out⟩
end Go.Proofs.YtbnoihpooeombaaDoor.X

namespace Go.Proofs.YtbnoihpooeombaaDoor.P
open Go.Proofs.YtbnoihpooeombaaDoor.X
open Go.RowKit Go.Proofs.YtbnoihpooeombaaDoorW.PrintWords Go.Proofs.YtbnoihpooeombaaDoorW.PrintLast Go.Proofs.YtbnoihpooeombaaDoorW.PrintMore
attribute [local go_sem] qAr qAu
set_option linter.unusedVariables false
set_option linter.unusedSimpArgs false
mutual
def hogsheadref15_Count.l0 : Nat → Int → Int → Int → Int → Bool → Int → ByteArray → List (S25) → List ByteArray → Option (Int)
 | 0, _, _, _, _, _, _, _, _, _ => none
 | k + 1, x1, x5, x6, x189000, x189001, x189002, x189003, x189004, x189005 => if x6 < (x189004.length : Int) then (if x5 ≤ 4000 then (if x1 > 0 then (if 0 ≤ x6 then ((hogsheadref15_Count.f k ((rd_T25 x189004 x6).f0) ((rd_T25 x189004 x6).f1) ((rd_T25 x189004 x6).f2) ((rd_T25 x189004 x6).f3) ((rd_T25 x189004 x6).f4) ((rd_T25 x189004 x6).f5) (wrap64 (x1 - 1))).bind fun t190 => (hogsheadref15_Count.l0 k x1 (wrap64 (x5 + t190)) (wrap64 (x6 + 1)) x189000 x189001 x189002 x189003 x189004 x189005)) else (none)) else (some (mn x5 4001))) else (some (mn x5 4001))) else (some (mn x5 4001))
def hogsheadref15_Count.f : Nat → Int → Bool → Int → ByteArray → List (S25) → List ByteArray → Int → Option (Int)
 | 0, _, _, _, _, _, _, _ => none
 | k + 1, a0_0, a0_1, a0_2, a0_3, l0_4, l0_5, a1 => hogsheadref15_Count.l0 k a1 1 0 a0_0 a0_1 a0_2 a0_3 l0_4 l0_5
end
end Go.Proofs.YtbnoihpooeombaaDoor.P

namespace Go.Proofs.YtbnoihpooeombaaDoor.P
open Go.Proofs.YtbnoihpooeombaaDoor.X
open Go.RowKit Go.Proofs.YtbnoihpooeombaaDoorW.PrintWords Go.Proofs.YtbnoihpooeombaaDoorW.PrintLast Go.Proofs.YtbnoihpooeombaaDoorW.PrintMore
attribute [local go_sem] qAr qAu
set_option linter.unusedVariables false
set_option linter.unusedSimpArgs false
def hogsheadref15_plain.j0 : Nat → Bool → Int → Bool → Int → ByteArray → List (S25) → List ByteArray → Option (Bool)
 | 0, _, _, _, _, _, _, _ => none
 | k + 1, x29, x192000, x192001, x192002, x192003, x192004, x192005 => if x29 = true then (some false) else (if x192000 = 4 then (if x192000 = 5 then (some true) else (some ((x192005.length : Int) == 0))) else (if x192000 = 5 then (some true) else (if (x192004.length : Int) > 0 then (some false) else (some ((x192005.length : Int) == 0)))))
def hogsheadref15_plain.f (k : Nat) (a0_0 : Int) (a0_1 : Bool) (a0_2 : Int) (a0_3 : ByteArray) (l0_4 : List (S25)) (l0_5 : List ByteArray) : Option (Bool) := if a0_0 = 1 then (if a0_0 = 2 then (if a0_0 = 3 then (hogsheadref15_plain.j0 k false a0_0 a0_1 a0_2 a0_3 l0_4 l0_5) else (hogsheadref15_plain.j0 k (a0_3.toList != ([] : List UInt8)) a0_0 a0_1 a0_2 a0_3 l0_4 l0_5)) else (if a0_2 = 0 then (if a0_0 = 3 then (hogsheadref15_plain.j0 k false a0_0 a0_1 a0_2 a0_3 l0_4 l0_5) else (hogsheadref15_plain.j0 k (a0_3.toList != ([] : List UInt8)) a0_0 a0_1 a0_2 a0_3 l0_4 l0_5)) else (hogsheadref15_plain.j0 k true a0_0 a0_1 a0_2 a0_3 l0_4 l0_5))) else (if a0_1 = true then (hogsheadref15_plain.j0 k true a0_0 a0_1 a0_2 a0_3 l0_4 l0_5) else (if a0_0 = 2 then (if a0_0 = 3 then (hogsheadref15_plain.j0 k false a0_0 a0_1 a0_2 a0_3 l0_4 l0_5) else (hogsheadref15_plain.j0 k (a0_3.toList != ([] : List UInt8)) a0_0 a0_1 a0_2 a0_3 l0_4 l0_5)) else (if a0_2 = 0 then (if a0_0 = 3 then (hogsheadref15_plain.j0 k false a0_0 a0_1 a0_2 a0_3 l0_4 l0_5) else (hogsheadref15_plain.j0 k (a0_3.toList != ([] : List UInt8)) a0_0 a0_1 a0_2 a0_3 l0_4 l0_5)) else (hogsheadref15_plain.j0 k true a0_0 a0_1 a0_2 a0_3 l0_4 l0_5))))
end Go.Proofs.YtbnoihpooeombaaDoor.P

namespace Go.Proofs.YtbnoihpooeombaaDoor.P
open Go.Proofs.YtbnoihpooeombaaDoor.X
open Go.RowKit Go.Proofs.YtbnoihpooeombaaDoorW.PrintWords Go.Proofs.YtbnoihpooeombaaDoorW.PrintLast Go.Proofs.YtbnoihpooeombaaDoorW.PrintMore
attribute [local go_sem] qAr qAu
set_option linter.unusedVariables false
set_option linter.unusedSimpArgs false
mutual
def hogsheadref15_may.j0 : Nat → Int → Bool → Int → Bool → Int → ByteArray → List (S25) → List ByteArray → Option (Bool)
 | 0, _, _, _, _, _, _, _, _ => none
 | k + 1, x1, x33, x193000, x193001, x193002, x193003, x193004, x193005 => if x33 = true then (some false) else (if x193000 = 5 then (hogsheadref15_may.j1 k x1 ((x193005.length : Int) != (x193004.length : Int)) x193000 x193001 x193002 x193003 x193004 x193005) else (hogsheadref15_may.j1 k x1 false x193000 x193001 x193002 x193003 x193004 x193005))
def hogsheadref15_may.j1 : Nat → Int → Bool → Int → Bool → Int → ByteArray → List (S25) → List ByteArray → Option (Bool)
 | 0, _, _, _, _, _, _, _, _ => none
 | k + 1, x1, x45, x193000, x193001, x193002, x193003, x193004, x193005 => if x45 = true then (some false) else (hogsheadref15_may.l0 k x1 1 x193000 x193001 x193002 x193003 x193004 x193005)
def hogsheadref15_may.l0 : Nat → Int → Int → Int → Bool → Int → ByteArray → List (S25) → List ByteArray → Option (Bool)
 | 0, _, _, _, _, _, _, _, _ => none
 | k + 1, x1, x5, x193000, x193001, x193002, x193003, x193004, x193005 => if x5 < (x193005.length : Int) then (if 0 ≤ (wrap64 (x5 - 1)) then (if (wrap64 (x5 - 1)) < (x193005.length : Int) then (if 0 ≤ x5 then (if ((Op.bytesLess ((rdOf ByteArray.empty x193005 (wrap64 (x5 - 1))).toList) ((rdOf ByteArray.empty x193005 x5).toList)) = true) then (hogsheadref15_may.l0 k x1 (wrap64 (x5 + 1)) x193000 x193001 x193002 x193003 x193004 x193005) else (some false)) else (none)) else (none)) else (none)) else (hogsheadref15_may.l1 k x1 0 x193000 x193001 x193002 x193003 x193004 x193005)
def hogsheadref15_may.l1 : Nat → Int → Int → Int → Bool → Int → ByteArray → List (S25) → List ByteArray → Option (Bool)
 | 0, _, _, _, _, _, _, _, _ => none
 | k + 1, x1, x6, x193000, x193001, x193002, x193003, x193004, x193005 => if x6 < (x193004.length : Int) then (if 0 ≤ x6 then ((hogsheadref15_may.f k ((rd_T25 x193004 x6).f0) ((rd_T25 x193004 x6).f1) ((rd_T25 x193004 x6).f2) ((rd_T25 x193004 x6).f3) ((rd_T25 x193004 x6).f4) ((rd_T25 x193004 x6).f5) (wrap64 (x1 - 1))).bind fun t197 => (if t197 = true then (hogsheadref15_may.l1 k x1 (wrap64 (x6 + 1)) x193000 x193001 x193002 x193003 x193004 x193005) else (some false))) else (none)) else (some true)
def hogsheadref15_may.f : Nat → Int → Bool → Int → ByteArray → List (S25) → List ByteArray → Int → Option (Bool)
 | 0, _, _, _, _, _, _, _ => none
 | k + 1, a0_0, a0_1, a0_2, a0_3, l0_4, l0_5, a1 => if a1 < 1 then (hogsheadref15_may.j0 k a1 true a0_0 a0_1 a0_2 a0_3 l0_4 l0_5) else ((hogsheadref15_plain.f k a0_0 a0_1 a0_2 a0_3 l0_4 l0_5).bind fun t193 => (if t193 = true then (if a0_0 < 0 then (hogsheadref15_may.j0 k a1 true a0_0 a0_1 a0_2 a0_3 l0_4 l0_5) else (if a0_0 > 5 then (hogsheadref15_may.j0 k a1 true a0_0 a0_1 a0_2 a0_3 l0_4 l0_5) else (if a0_2 < (-9007199254740992) then (hogsheadref15_may.j0 k a1 true a0_0 a0_1 a0_2 a0_3 l0_4 l0_5) else (hogsheadref15_may.j0 k a1 (decide (a0_2 > 9007199254740992)) a0_0 a0_1 a0_2 a0_3 l0_4 l0_5)))) else (hogsheadref15_may.j0 k a1 true a0_0 a0_1 a0_2 a0_3 l0_4 l0_5)))
end
end Go.Proofs.YtbnoihpooeombaaDoor.P

namespace Go.Proofs.YtbnoihpooeombaaDoor.P
open Go.Proofs.YtbnoihpooeombaaDoor.X
open Go.RowKit Go.Proofs.YtbnoihpooeombaaDoorW.PrintWords Go.Proofs.YtbnoihpooeombaaDoorW.PrintLast Go.Proofs.YtbnoihpooeombaaDoorW.PrintMore
attribute [local go_sem] qAr qAu
set_option linter.unusedVariables false
set_option linter.unusedSimpArgs false
def hogsheadref15_May.f (k : Nat) (a0_0 : Int) (a0_1 : Bool) (a0_2 : Int) (a0_3 : ByteArray) (l0_4 : List (S25)) (l0_5 : List ByteArray) : Option (Bool) := (hogsheadref15_Count.f k a0_0 a0_1 a0_2 a0_3 l0_4 l0_5 20).bind fun t199 => (if t199 ≤ 4000 then ((hogsheadref15_may.f k a0_0 a0_1 a0_2 a0_3 l0_4 l0_5 16).bind fun t200 => (some t200)) else (some false))
end Go.Proofs.YtbnoihpooeombaaDoor.P

namespace Go.Proofs.YtbnoihpooeombaaDoor.X
open Go.RowKit Go.Proofs.YtbnoihpooeombaaDoorW.PrintWords Go.Proofs.YtbnoihpooeombaaDoorW.PrintLast Go.Proofs.YtbnoihpooeombaaDoorW.PrintMore Go.Proofs.YtbnoihpooeombaaDoor.P
set_option linter.unusedVariables false
set_option linter.unusedSimpArgs false
def okV : Nat → S25 → Prop
  | 0, _ => False
  | d + 1, x => 0 ≤ x.f0 ∧ x.f0 ≤ 5 ∧ -9007199254740992 ≤ x.f2 ∧ x.f2 ≤ 9007199254740992 ∧ x.f3.size ≤ 1000000 ∧ x.f4.length ≤ 100000 ∧ x.f5.length ≤ 100000 ∧ (∀ s ∈ x.f5, s.size ≤ 1000000) ∧ (x.f0 = 5 → x.f5.length = x.f4.length) ∧ ∀ y ∈ x.f4, okV d y
def KeepT (w w' : World) : Prop := w.heap.size ≤ w'.heap.size ∧ ∀ (k : Nat) (cs : Array Value) (t : TypeId) (fr : Nat × Nat), w.heap[k]? = some (.cells cs t fr) → t ≠ 5 → w'.heap[k]? = some (.cells cs t fr)
theorem KeepT.trans {a b c : World} (h : KeepT a b) (k : KeepT b c) : KeepT a c := ⟨Nat.le_trans h.1 k.1, fun q cs t fr e n => k.2 q cs t fr (h.2 q cs t fr e n) n⟩
def okB : Nat → S25 → Bool
  | 0, _ => false
  | d + 1, x => decide (0 ≤ x.f0 ∧ x.f0 ≤ 5 ∧ -9007199254740992 ≤ x.f2 ∧ x.f2 ≤ 9007199254740992 ∧ x.f3.size ≤ 1000000 ∧ x.f4.length ≤ 100000 ∧ x.f5.length ≤ 100000 ∧ (x.f0 = 5 → x.f5.length = x.f4.length)) && (x.f5.all (fun s => decide (s.size ≤ 1000000)) && x.f4.all (okB d))
def textB (d : Nat) (x : S25) : ByteArray := strOfNums (textI d x)
def hogsheadref15_Lay.f (k : Nat) (a0_0 : Int) (a0_1 : Bool) (a0_2 : Int) (a0_3 : ByteArray) (l0_4 : List (S25)) (l0_5 : List ByteArray) : Option (ByteArray × Int) :=
  (hogsheadref15_May.f k a0_0 a0_1 a0_2 a0_3 l0_4 l0_5).bind fun m => if m = true then (if okB 16 ⟨a0_0, a0_1, a0_2, a0_3, l0_4, l0_5⟩ = true ∧ (textI 16 ⟨a0_0, a0_1, a0_2, a0_3, l0_4, l0_5⟩).length ≤ 140737488355000 then some (textB 16 ⟨a0_0, a0_1, a0_2, a0_3, l0_4, l0_5⟩, 0) else none) else some (ByteArray.empty, 2)
end Go.Proofs.YtbnoihpooeombaaDoor.X

namespace Go.Proofs.YtbnoihpooeombaaDoor.X
open Go.RowKit Go.WideShapes Go.ChangeShapes Go.Proofs.YtbnoihpooeombaaDoorW.PrintWords Go.Proofs.YtbnoihpooeombaaDoor.P
set_option linter.unusedVariables false
section
variable {H : Type} {enc : TypeId × Value → H} {w : World} {base : Nat} {spare : Nat → Bool} {held : Bool}
theorem qEf {P : Program} {α : Type} (d : Kd α) (dflt : α) {t e : TypeId} (ht : P.underlying t = some (.slice e)) (hc : P.cellsOf e = d.sz) {fuel : Nat} {cs : List Value} {x : DataW H × List MemPlace}
    (hel : ∀ n cs x, n < fuel → DataW.trod enc P w base spare held n e cs = some x → ∃ y, d.K w y cs) (h : DataW.trod enc P w base spare held fuel t cs = some x) :
    ∃ (A : Option Addr) (c : Nat) (l : List α), cs = [.slice A l.length c] ∧ l.length ≤ c ∧ d.C w A l.length l := by
  rcases DataW.trod_slice ht h with ⟨rfl, _⟩ | ⟨a, len, cap, elems, rest, n, rfl, rfl, _, hb, hl, hm, hlen, hE, _, _⟩
  · exact ⟨none, 0, [], rfl, Nat.le_refl _, rfl, by simp, fun h => absurd h (by simp)⟩
  · haveI : Inhabited α := ⟨dflt⟩
    have hone : ∀ i, i < len → ∃ y : α, ∃ c : List Value, c.length = d.sz ∧ d.K w y c ∧ ∀ j u, c[j]? = some u → w.cell? (a.add (i * d.sz + j)) = some u := by
      intro i hi
      have h1 := hE i hi
      rw [List.getElem?_eq_getElem (by omega)] at h1
      obtain ⟨cs', h2, h3⟩ := Option.bind_eq_some_iff.1 h1
      obtain ⟨y, hy⟩ := hel n cs' _ (Nat.lt_succ_self n) h3
      obtain ⟨_, h4, h5⟩ := World.cells?_some h2
      rw [hc] at h4 h5
      refine ⟨y, cs', h4, hy, fun j u hj => ?_⟩
      have hjl : j < d.sz := by
        have := (List.getElem?_eq_some_iff.1 hj).1; omega
      have h6 := h5 j hjl
      rw [Go.Deep.add_add] at h6
      rw [h6, hj]
    obtain ⟨f, hf⟩ := Go.Deep.choose_lt hone
    refine ⟨some a, cap, (List.range len).map f, by simp, by simpa using hl, by simp, by simpa [maxLen] using Nat.le_trans hl hm, fun _ => ⟨a, rfl, fun j p hp => ?_⟩⟩
    have hj : j < len := by
      have := (List.getElem?_eq_some_iff.1 hp).1; simpa using this
    have : f j = p := by simpa [hj] using hp
    subst this
    exact hf j hj
set_option maxRecDepth 100000 in
theorem qG1 {fuel : Nat} {cs : List Value} {x : DataW H × List MemPlace} (h : DataW.trod enc Tryd.prog w base spare held fuel 9 cs = some x) : ∃ y : ByteArray, Kd.string.K w y cs := by
  obtain ⟨s, rfl, _, _⟩ := DataW.trod_string Tryd.underlying9 h
  exact ⟨s, rfl⟩
set_option maxRecDepth 100000 in
theorem qF2 {fuel : Nat} {cs : List Value} {x : DataW H × List MemPlace} (h : DataW.trod enc Tryd.prog w base spare held fuel 23 cs = some x) :
    ∃ (A : Option Addr) (c : Nat) (l : List ByteArray), cs = [.slice A l.length c] ∧ l.length ≤ c ∧ Kd.string.C w A l.length l :=
  qEf Kd.string ByteArray.empty Tryd.underlying23 (by kernel_rfl) (fun n cs x _ h => qG1 h) h
set_option maxRecDepth 100000 in
theorem trod_V : ∀ (fuel : Nat) (cs : List Value) (x : DataW H × List MemPlace), DataW.trod enc Tryd.prog w base spare held fuel 25 cs = some x → ∃ y : S25, k25.K w y cs := by
  intro fuel
  induction fuel using Nat.strongRecOn with
  | _ fuel ih =>
    intro cs x h
    obtain ⟨xs, n, rfl, _, hl, hxl, hf⟩ := DataW.trod_struct Tryd.underlying25 h
    have hC : Tryd.prog.cellsOf 25 = 6 := by kernel_rfl
    rw [hC] at hl
    obtain ⟨c0, c1, c2, c3, c4, c5, rfl⟩ : ∃ c0 c1 c2 c3 c4 c5, cs = [c0, c1, c2, c3, c4, c5] := by
      rcases cs with _ | ⟨c0, _ | ⟨c1, _ | ⟨c2, _ | ⟨c3, _ | ⟨c4, _ | ⟨c5, _ | ⟨c6, cs⟩⟩⟩⟩⟩⟩⟩ <;> simp only [List.length_cons, List.length_nil] at hl <;> first | (exact ⟨c0, c1, c2, c3, c4, c5, rfl⟩) | omega
    have hx : ∀ i, i < 6 → ∃ z, xs[i]? = some z := fun i hi => ⟨_, List.getElem?_eq_getElem (by rw [hxl]; exact hi)⟩
    have k1 : ∀ t, Tryd.prog.cellsOf t = 1 → Tryd.prog.cellsOf t = 1 := fun _ h => h
    have t1 : Tryd.prog.cellsOf 3 = 1 := by kernel_rfl
    have t2 : Tryd.prog.cellsOf 4 = 1 := by kernel_rfl
    have t3 : Tryd.prog.cellsOf 9 = 1 := by kernel_rfl
    have t4 : Tryd.prog.cellsOf 22 = 1 := by kernel_rfl
    have t5 : Tryd.prog.cellsOf 23 = 1 := by kernel_rfl
    obtain ⟨z0, e0⟩ := hx 0 (by omega)
    obtain ⟨z1, e1⟩ := hx 1 (by omega)
    obtain ⟨z2, e2⟩ := hx 2 (by omega)
    obtain ⟨z3, e3⟩ := hx 3 (by omega)
    obtain ⟨z4, e4⟩ := hx 4 (by omega)
    obtain ⟨z5, e5⟩ := hx 5 (by omega)
    have f0 : DataW.trod enc Tryd.prog w base spare held n 3 (([c0, c1, c2, c3, c4, c5].drop 0).take (Tryd.prog.cellsOf 3)) = some z0 := (hf 0 _ rfl).trans e0
    have f1 : DataW.trod enc Tryd.prog w base spare held n 4 (([c0, c1, c2, c3, c4, c5].drop 1).take (Tryd.prog.cellsOf 4)) = some z1 := (hf 1 _ rfl).trans e1
    have f2 : DataW.trod enc Tryd.prog w base spare held n 3 (([c0, c1, c2, c3, c4, c5].drop 2).take (Tryd.prog.cellsOf 3)) = some z2 := (hf 2 _ rfl).trans e2
    have f3 : DataW.trod enc Tryd.prog w base spare held n 9 (([c0, c1, c2, c3, c4, c5].drop 3).take (Tryd.prog.cellsOf 9)) = some z3 := (hf 3 _ rfl).trans e3
    have f4 : DataW.trod enc Tryd.prog w base spare held n 22 (([c0, c1, c2, c3, c4, c5].drop 4).take (Tryd.prog.cellsOf 22)) = some z4 := (hf 4 _ rfl).trans e4
    have f5 : DataW.trod enc Tryd.prog w base spare held n 23 (([c0, c1, c2, c3, c4, c5].drop 5).take (Tryd.prog.cellsOf 23)) = some z5 := (hf 5 _ rfl).trans e5
    simp only [t1, t2, t3, t4, t5, List.drop_zero, List.drop_succ_cons, List.take_succ_cons, List.take_zero] at f0 f1 f2 f3 f4 f5
    obtain ⟨n0, g0, _, _⟩ := DataW.trod_int Tryd.underlying3 f0
    obtain ⟨b1, g1, _⟩ := DataW.trod_bool Tryd.underlying4 f1
    obtain ⟨n2, g2, _, _⟩ := DataW.trod_int Tryd.underlying3 f2
    obtain ⟨s3, g3, _, _⟩ := DataW.trod_string Tryd.underlying9 f3
    obtain ⟨A4, d4, l4, g4, h4, r4⟩ := qEf k25 z25 Tryd.underlying22 (by kernel_rfl) (fun m cs x hm h => ih m (by omega) cs x h) f4
    obtain ⟨A5, d5, l5, g5, h5, r5⟩ := qF2 f5
    simp only [List.cons.injEq, and_true] at g0 g1 g2 g3 g4 g5
    subst g0 g1 g2 g3 g4 g5
    exact ⟨⟨n0, b1, n2, s3, l4, l5⟩, k25_mk w ⟨n0, b1, n2, s3, l4, l5⟩ h4 r4 h5 r5⟩
set_option maxRecDepth 100000 in
theorem open_V {r : Reach} {b0 : Nat} {v : Value} {d : DataW H} {ps : List MemPlace} (hval : Value.okWide Tryd.prog w r b0 25 v) (hd : DataW.Trod enc Tryd.prog w base spare held 25 v d ps) :
    ∃ (y : S25) (A4 : Option Addr) (c4 : Nat) (A5 : Option Addr) (c5 : Nat), v = .agg #[.int .i64 y.f0, .bool y.f1, .int .i64 y.f2, .string y.f3, .slice A4 y.f4.length c4, .slice A5 y.f5.length c5] ∧ y.f4.length ≤ c4 ∧ k25.C w A4 y.f4.length y.f4 ∧ y.f5.length ≤ c5 ∧ Kd.string.C w A5 y.f5.length y.f5 := by
  obtain ⟨cs, rfl, _⟩ := okWide_struct Tryd.underlying25 hval
  obtain ⟨fuel, hf⟩ := hd
  obtain ⟨y, hy⟩ := trod_V fuel _ _ hf
  obtain ⟨A4, c4, A5, c5, e, h4, r4, h5, r5⟩ := qDv hy
  have e' : cs.toList = [.int .i64 y.f0, .bool y.f1, .int .i64 y.f2, .string y.f3, .slice A4 y.f4.length c4, .slice A5 y.f5.length c5] := e
  refine ⟨y, A4, c4, A5, c5, ?_, h4, r4, h5, r5⟩
  congr 1
  exact Array.toList_inj.1 e'
end
end Go.Proofs.YtbnoihpooeombaaDoor.X

namespace Go.Proofs.YtbnoihpooeombaaDoor.P
open Go.Proofs.YtbnoihpooeombaaDoor.X
open Go.RowKit Go.Proofs.YtbnoihpooeombaaDoorW.PrintWords Go.Proofs.YtbnoihpooeombaaDoorW.PrintLast Go.Proofs.YtbnoihpooeombaaDoorW.PrintMore
attribute [local go_sem] qAr qAu
set_option linter.unusedVariables false
set_option linter.unusedSimpArgs false
mutual
def hogsheadlaw0_GreatTexts.l0 : Nat → List ByteArray → Int → Int → Int → Option (Bool)
 | 0, _, _, _, _ => none
 | k + 1, x0, x1, x2, x7 => if x7 < (x0.length : Int) then (hogsheadlaw0_GreatTexts.j1 k x0 x1 x2 x7 (decide ((x0.length : Int) ≤ x1))) else (hogsheadlaw0_GreatTexts.j1 k x0 x1 x2 x7 false)
def hogsheadlaw0_GreatTexts.j1 : Nat → List ByteArray → Int → Int → Int → Bool → Option (Bool)
 | 0, _, _, _, _, _ => none
 | k + 1, x0, x1, x2, x7, x17 => if x17 = true then (if 0 ≤ x7 then (if x7 < (x0.length : Int) then (if ((rdOf ByteArray.empty x0 x7).size : Int) > x2 then (some true) else (hogsheadlaw0_GreatTexts.l0 k x0 x1 x2 (wrap64 (x7 + 1)))) else (none)) else (none)) else (some (decide ((x0.length : Int) > x1)))
end
def hogsheadlaw0_GreatTexts.f (k : Nat) (l0 : List ByteArray) (a1 : Int) (a2 : Int) : Option (Bool) := hogsheadlaw0_GreatTexts.l0 k l0 a1 a2 0
set_option maxHeartbeats 8000000 in
set_option maxRecDepth 100000 in
theorem hogsheadlaw0_GreatTexts.calls (k : Nat) (A0 : Option Addr) (c0 : Nat) (l0 : List ByteArray) (a1 : Int) (a2 : Int) (r : Bool) (w : World) (hr0 : Kd.C Kd.string w A0 l0.length l0) (hc0 : l0.length ≤ c0) (h : hogsheadlaw0_GreatTexts.f k l0 a1 a2 = some r) :
  Calls Tryd.prog 28 #[.slice A0 l0.length c0, .int .i64 a1, .int .i64 a2] w fun e w' => e = .returned (.bool r) ∧ Drawn0 w w' := by
 have HR0 := Aside0.mk hr0
 have HC0 := Aside0.mk hc0
 clear hr0 hc0
 have H : (hogsheadlaw0_GreatTexts.l0 k l0 a1 a2 0) = some r := h
 clear h
 have H' := Aside0.mk H
 clear H
 go_enter Tryd.func28, Tryd.ntmps28
 go_wp2
 go_loopg [7] k (fun kq v7 w' => ∃ (x7_1 : Int), v7 = .int .i64 x7_1 ∧ Aside0 (hogsheadlaw0_GreatTexts.l0 kq l0 a1 a2 x7_1 = some r) ∧ Aside0 (kq ≤ k) ∧ Drawn0 w w')
 case atStart => exact ⟨(0), (by first | rfl | (simp; done) | (simp [*]; done) | exact congrArg Value.bool (nil_ne _) | exact congrArg Value.bool (nil_eq _) | exact congrArg Value.bool (nil_ne' _)), H', ⟨Nat.le_refl _⟩, by repeat (first | exact Drawn0.refl _ | apply Drawn0.step)⟩
 case round =>
  clear H'
  try clear c2
  try clear p2
  obtain ⟨x7_1, rfl, HA, HK1, ⟨m1, rfl⟩⟩ := hrel
  cases gk with
  | zero => exact absurd HA.out (by simp [hogsheadlaw0_GreatTexts.l0])
  | succ k1 =>
   have H := HA.out
   clear HA
   simp only [hogsheadlaw0_GreatTexts.l0] at H
   have HC4 := Aside0.mk H
   clear H
   go_upto_region 2 with (fail)
   go_cut [17] (fun v17 wc => ∃ (kq : Nat) (x17_3 : Bool), v17 = .bool x17_3 ∧ Aside0 (hogsheadlaw0_GreatTexts.j1 kq l0 a1 a2 x7_1 x17_3 = some r) ∧ Aside0 (kq ≤ k1) ∧ Drawn0 w wc)
   case first =>
    have H := HC4.out
    clear HC4
    by_cases c5 : x7_1 < (l0.length : Int)
    ·rw [if_pos c5] at H
     have c5b0 : decide (x7_1 < (l0.length : Int)) = true := decide_eq_true c5
     clear c5
     (first | rw [c5b0] | (simp only [i64_w, i32_w]; rw [c5b0]) | skip)
     have H' := Aside0.mk H
     clear H
     go_wp2
     go_meet
     case rel => exact ⟨_, (decide ((l0.length : Int) ≤ a1)), (by first | rfl | (simp; done) | (simp [*]; done) | exact congrArg Value.bool (nil_ne _) | exact congrArg Value.bool (nil_eq _) | exact congrArg Value.bool (nil_ne' _)), H', ⟨by have := HK1.out; first | omega | exact Nat.le_refl _⟩, by repeat (first | exact Drawn0.refl _ | apply Drawn0.step)⟩
    ·rw [if_neg c5] at H
     have c5b0 : decide (x7_1 < (l0.length : Int)) = false := decide_eq_false c5
     clear c5
     (first | rw [c5b0] | (simp only [i64_w, i32_w]; rw [c5b0]) | skip)
     have H' := Aside0.mk H
     clear H
     go_wp2
     go_meet
     case rel => exact ⟨_, (false), (by first | rfl | (simp; done) | (simp [*]; done) | exact congrArg Value.bool (nil_ne _) | exact congrArg Value.bool (nil_eq _) | exact congrArg Value.bool (nil_ne' _)), H', ⟨by have := HK1.out; first | omega | exact Nat.le_refl _⟩, by repeat (first | exact Drawn0.refl _ | apply Drawn0.step)⟩
   case rest =>
    clear HC4
    try clear c2
    try clear p2
    try clear c5
    try clear c5b0
    try clear p2
    obtain ⟨kq, x17_3, rfl, HA, HJ3, ⟨mc3, rfl⟩⟩ := hcut
    cases kq with
    | zero => exact absurd HA.out (by simp [hogsheadlaw0_GreatTexts.j1])
    | succ kj3 =>
     have H := HA.out
     clear HA
     simp only [hogsheadlaw0_GreatTexts.j1] at H
     by_cases c6 : x17_3 = true
     ·subst c6
      have H1 : (if 0 ≤ x7_1 then (if x7_1 < (l0.length : Int) then (if ((rdOf ByteArray.empty l0 x7_1).size : Int) > a2 then (some true) else (hogsheadlaw0_GreatTexts.l0 kj3 l0 a1 a2 (wrap64 (x7_1 + 1)))) else (none)) else (none)) = some r := by rw [if_pos rfl] at H; exact H
      clear H
      have H := H1
      clear H1
      by_cases c7 : 0 ≤ x7_1
      ·rw [if_pos c7] at H
       have c7b0 : decide (0 ≤ x7_1) = true := decide_eq_true c7
       clear c7
       by_cases c8 : x7_1 < (l0.length : Int)
       ·rw [if_pos c8] at H
        have c8b0 : decide (x7_1 < (l0.length : Int)) = true := decide_eq_true c8
        clear c8
        by_cases c9 : ((rdOf ByteArray.empty l0 x7_1).size : Int) > a2
        ·rw [if_pos c9] at H
         have c9b0 : decide (a2 < ((rdOf ByteArray.empty l0 x7_1).size : Int)) = true := decide_eq_true c9
         clear c9
         obtain rfl := Option.some.inj H
         have p101 : 0 ≤ (x7_1 : Int) := of_decide_eq_true (by first | (with_reducible assumption) | assumption)
         have q101 : x7_1 < (l0.length : Int) := of_decide_eq_true (by first | (with_reducible assumption) | assumption)
         obtain ⟨ad101, e101, hx101_0⟩ := Kd.at_string HR0.out x7_1 p101 q101
         cases e101
         replace p101 := eq_true p101
         replace q101 := eq_true q101
         go_wp2
         go_ret
         exact ⟨by first | rfl | (simp; done) | (simp [*]; done), by repeat (first | exact Drawn0.refl _ | apply Drawn0.step)⟩
        ·rw [if_neg c9] at H
         have c9b0 : decide (a2 < ((rdOf ByteArray.empty l0 x7_1).size : Int)) = false := decide_eq_false c9
         clear c9
         have H' := Aside0.mk H
         clear H
         have p101 : 0 ≤ (x7_1 : Int) := of_decide_eq_true (by first | (with_reducible assumption) | assumption)
         have q101 : x7_1 < (l0.length : Int) := of_decide_eq_true (by first | (with_reducible assumption) | assumption)
         obtain ⟨ad101, e101, hx101_0⟩ := Kd.at_string HR0.out x7_1 p101 q101
         cases e101
         replace p101 := eq_true p101
         replace q101 := eq_true q101
         go_wp2
         go_roundg kj3
         case measure => have := HK1.out; have := HJ3.out; omega
         case rel => exact ⟨(wrap64 (x7_1 + 1)), (by first | rfl | (simp; done) | (simp [*]; done) | exact congrArg Value.bool (nil_ne _) | exact congrArg Value.bool (nil_eq _) | exact congrArg Value.bool (nil_ne' _)), H', ⟨by have := HK1.out; have := HJ3.out; omega⟩, by repeat (first | exact Drawn0.refl _ | apply Drawn0.step)⟩
       ·rw [if_neg c8] at H
        exact absurd H (by simp)
      ·rw [if_neg c7] at H
       exact absurd H (by simp)
     ·replace c6 := Bool.eq_false_iff.mpr c6
      subst c6
      have H1 : (some (decide ((l0.length : Int) > a1))) = some r := by rw [if_neg (show ¬ (false = true) by decide)] at H; exact H
      clear H
      have H := H1
      clear H1
      obtain rfl := Option.some.inj H
      go_wp2
      go_ret
      exact ⟨by first | rfl | (simp; done) | (simp [*]; done), by repeat (first | exact Drawn0.refl _ | apply Drawn0.step)⟩
end Go.Proofs.YtbnoihpooeombaaDoor.P

namespace Go.Proofs.YtbnoihpooeombaaDoor.P
open Go.Proofs.YtbnoihpooeombaaDoor.X
open Go.RowKit Go.Proofs.YtbnoihpooeombaaDoorW.PrintWords Go.Proofs.YtbnoihpooeombaaDoorW.PrintLast Go.Proofs.YtbnoihpooeombaaDoorW.PrintMore
attribute [local go_sem] qAr qAu
set_option linter.unusedVariables false
set_option linter.unusedSimpArgs false
mutual
def hogsheadlaw0_count.j0 : Nat → Int → Int → Bool → Int → Bool → Int → ByteArray → List (S25) → List ByteArray → Option (Int)
 | 0, _, _, _, _, _, _, _, _, _ => none
 | k + 1, x1, x5, x15, x103000, x103001, x103002, x103003, x103004, x103005 => if x15 = true then (some x1) else (hogsheadlaw0_count.l0 k x1 x5 0 x103000 x103001 x103002 x103003 x103004 x103005)
def hogsheadlaw0_count.l0 : Nat → Int → Int → Int → Int → Bool → Int → ByteArray → List (S25) → List ByteArray → Option (Int)
 | 0, _, _, _, _, _, _, _, _, _ => none
 | k + 1, x1, x5, x6, x103000, x103001, x103002, x103003, x103004, x103005 => if x6 < (x103004.length : Int) then (if x5 < x1 then (if 0 ≤ x6 then ((hogsheadlaw0_count.f k ((rd_T25 x103004 x6).f0) ((rd_T25 x103004 x6).f1) ((rd_T25 x103004 x6).f2) ((rd_T25 x103004 x6).f3) ((rd_T25 x103004 x6).f4) ((rd_T25 x103004 x6).f5) (wrap64 (x1 - x5))).bind fun t105 => (hogsheadlaw0_count.l0 k x1 (wrap64 (x5 + t105)) (wrap64 (x6 + 1)) x103000 x103001 x103002 x103003 x103004 x103005)) else (none)) else (some x5)) else (some x5)
def hogsheadlaw0_count.f : Nat → Int → Bool → Int → ByteArray → List (S25) → List ByteArray → Int → Option (Int)
 | 0, _, _, _, _, _, _, _ => none
 | k + 1, a0_0, a0_1, a0_2, a0_3, l0_4, l0_5, a1 => if (a0_3.size : Int) > 100 then (hogsheadlaw0_count.j0 k a1 1 true a0_0 a0_1 a0_2 a0_3 l0_4 l0_5) else ((hogsheadlaw0_GreatTexts.f k l0_5 100 100).bind fun t103 => (hogsheadlaw0_count.j0 k a1 1 t103 a0_0 a0_1 a0_2 a0_3 l0_4 l0_5))
end
set_option maxHeartbeats 8000000 in
set_option maxRecDepth 100000 in
theorem hogsheadlaw0_count.calls (k : Nat) : ∀ (a0_0 : Int) (a0_1 : Bool) (a0_2 : Int) (a0_3 : ByteArray) (A0_4 : Option Addr) (c0_4 : Nat) (l0_4 : List (S25)) (A0_5 : Option Addr) (c0_5 : Nat) (l0_5 : List ByteArray) (a1 : Int) (r : Int) (w : World) (hr0_4 : Kd.C k25 w A0_4 l0_4.length l0_4) (hc0_4 : l0_4.length ≤ c0_4) (hr0_5 : Kd.C Kd.string w A0_5 l0_5.length l0_5) (hc0_5 : l0_5.length ≤ c0_5) (h : hogsheadlaw0_count.f k a0_0 a0_1 a0_2 a0_3 l0_4 l0_5 a1 = some r),
  Calls Tryd.prog 46 #[.agg #[.int .i64 a0_0, .bool a0_1, .int .i64 a0_2, .string a0_3, .slice A0_4 l0_4.length c0_4, .slice A0_5 l0_5.length c0_5], .int .i64 a1] w fun e w' => e = .returned (.int .i64 r) ∧ Below w.heap.size w w' := by
 induction k using Nat.strongRecOn with
 | _ k ih =>
 intro a0_0 a0_1 a0_2 a0_3 A0_4 c0_4 l0_4 A0_5 c0_5 l0_5 a1 r w hr0_4 hc0_4 hr0_5 hc0_5 h
 cases k with
 | zero => exact absurd h (by simp [hogsheadlaw0_count.f])
 | succ k =>
 simp only [hogsheadlaw0_count.f] at h
 have hu25 := Tryd.underlying25
 have HR0_4 := Aside0.mk hr0_4
 have HC0_4 := Aside0.mk hc0_4
 clear hr0_4 hc0_4
 have HR0_5 := Aside0.mk hr0_5
 have HC0_5 := Aside0.mk hc0_5
 clear hr0_5 hc0_5
 have HB := Aside0.mk (Below.refl w.heap.size w)
 have H : (if (a0_3.size : Int) > 100 then (hogsheadlaw0_count.j0 k a1 1 true a0_0 a0_1 a0_2 a0_3 l0_4 l0_5) else ((hogsheadlaw0_GreatTexts.f k l0_5 100 100).bind fun t103 => (hogsheadlaw0_count.j0 k a1 1 t103 a0_0 a0_1 a0_2 a0_3 l0_4 l0_5))) = some r := h
 clear h
 have HC3 := Aside0.mk H
 clear H
 go_enter Tryd.func46, Tryd.ntmps46
 go_upto_region 2 with (first | ((with_reducible refine qAy (N := 2) rfl ?_); refine qA1 ?hg (N := 2) ?hd (cs := #[.int .i64 a0_0, .bool a0_1, .int .i64 a0_2, .string a0_3, .slice A0_4 l0_4.length c0_4, .slice A0_5 l0_5.length c0_5]) (t := 25) ?hr ?_; (case hd => rfl); (case hg => rfl); (case hr => first | (go_simp; done) | (go_simp; rfl)); intro gb102 hg w4 hbox hb; have n0_ := Aside0.mk (qAi (by repeat (first | (with_reducible first | exact HB.out | apply qAd | apply qAc | apply qAe) | exact HB.out)) hb); have n1_ := Aside0.mk (hbox); have n2_ := Aside0.mk ((by rw [hg]; exact (qAn (by repeat (first | (with_reducible first | exact HB.out | apply qAd | apply qAc | apply qAe) | exact HB.out))) : w.heap.size ≤ gb102)); have n3_ := Aside0.mk ((by rw [hg]; exact (qAn (by repeat (first | (with_reducible first | exact HB.out | apply qAd | apply qAc | apply qAe) | exact HB.out))) : w.heap.size ≤ gb102)); clear HB; have HB := n0_; have BK102 := n1_; have GW102 := n2_; have GE102 := n3_; clear n0_ n1_ n2_ n3_; clear hb hbox hg))
 (try simp only [Act.put, List.setIfInBounds_toArray, List.set_cons_zero, List.set_cons_succ])
 go_cut [15] (fun v15 wc => ∃ (kq : Nat) (x15_2 : Bool), v15 = .bool x15_2 ∧ Aside0 (hogsheadlaw0_count.j0 kq a1 1 x15_2 a0_0 a0_1 a0_2 a0_3 l0_4 l0_5 = some r) ∧ Aside0 (kq ≤ k) ∧ Aside0 (wc.heap[gb102]? = some (.cells #[.int .i64 a0_0, .bool a0_1, .int .i64 a0_2, .string a0_3, (.slice A0_4 l0_4.length c0_4), (.slice A0_5 l0_5.length c0_5)] 25 (0, 0))) ∧ Aside0 (Below w.heap.size w wc))
 case first =>
  have H := HC3.out
  clear HC3
  by_cases c5 : (a0_3.size : Int) > 100
  ·rw [if_pos c5] at H
   have c5b0 : decide (100 < (a0_3.size : Int)) = true := decide_eq_true c5
   have c5b1 : decide (100 < a0_3.size) = true := decide_eq_true (by omega)
   clear c5
   (first | rw [c5b0] | (simp only [i64_w, i32_w]; rw [c5b0]) | skip)
   have H' := Aside0.mk H
   clear H
   have hcz6_0 : w4.cell? ⟨gb102, 0, none⟩ = some (.int .i64 a0_0) := (qAb BK102.out 0).trans rfl
   have hcz6_1 : w4.cell? ⟨gb102, 1, none⟩ = some (.bool a0_1) := (qAb BK102.out 1).trans rfl
   have hcz6_2 : w4.cell? ⟨gb102, 2, none⟩ = some (.int .i64 a0_2) := (qAb BK102.out 2).trans rfl
   have hcz6_3 : w4.cell? ⟨gb102, 3, none⟩ = some (.string a0_3) := (qAb BK102.out 3).trans rfl
   have hcz6_4 : w4.cell? ⟨gb102, 4, none⟩ = some (.slice A0_4 l0_4.length c0_4) := (qAb BK102.out 4).trans rfl
   have hcz6_5 : w4.cell? ⟨gb102, 5, none⟩ = some (.slice A0_5 l0_5.length c0_5) := (qAb BK102.out 5).trans rfl
   have hfz6_0 := qAa BK102.out 0
   have hfz6_1 := qAa BK102.out 1
   have hfz6_2 := qAa BK102.out 2
   have hfz6_3 := qAa BK102.out 3
   have hfz6_4 := qAa BK102.out 4
   have hfz6_5 := qAa BK102.out 5
   go_wp2
   go_meet
   case rel => exact ⟨_, (true), (by first | rfl | (simp; done) | (simp [*]; done) | exact congrArg Value.bool (nil_ne _) | exact congrArg Value.bool (nil_eq _) | exact congrArg Value.bool (nil_ne' _)), H', ⟨by first | omega | exact Nat.le_refl _⟩, ⟨by (with_reducible repeat (first | refine qAg ?_ _ | refine qAh ?_ | refine blk_alloc ?_ _)); exact BK102.out⟩, ⟨by repeat (first | (with_reducible first | exact HB.out | apply qAd | apply qAc | apply qAe | refine qAf ?_ GE102.out) | exact HB.out)⟩⟩
  ·rw [if_neg c5] at H
   have c5b0 : decide (100 < (a0_3.size : Int)) = false := decide_eq_false c5
   have c5b1 : decide (100 < a0_3.size) = false := decide_eq_false (by omega)
   clear c5
   (first | rw [c5b0] | (simp only [i64_w, i32_w]; rw [c5b0]) | skip)
   replace H := Option.bind_eq_some_iff.mp H
   obtain ⟨t103, A70, H⟩ := H
   replace H : (hogsheadlaw0_count.j0 k a1 1 t103 a0_0 a0_1 a0_2 a0_3 l0_4 l0_5) = some r := H
   have A7 := Aside0.mk A70
   clear A70
   have H' := Aside0.mk H
   clear H
   have hcz8_0 : w4.cell? ⟨gb102, 0, none⟩ = some (.int .i64 a0_0) := (qAb BK102.out 0).trans rfl
   have hcz8_1 : w4.cell? ⟨gb102, 1, none⟩ = some (.bool a0_1) := (qAb BK102.out 1).trans rfl
   have hcz8_2 : w4.cell? ⟨gb102, 2, none⟩ = some (.int .i64 a0_2) := (qAb BK102.out 2).trans rfl
   have hcz8_3 : w4.cell? ⟨gb102, 3, none⟩ = some (.string a0_3) := (qAb BK102.out 3).trans rfl
   have hcz8_4 : w4.cell? ⟨gb102, 4, none⟩ = some (.slice A0_4 l0_4.length c0_4) := (qAb BK102.out 4).trans rfl
   have hcz8_5 : w4.cell? ⟨gb102, 5, none⟩ = some (.slice A0_5 l0_5.length c0_5) := (qAb BK102.out 5).trans rfl
   have hfz8_0 := qAa BK102.out 0
   have hfz8_1 := qAa BK102.out 1
   have hfz8_2 := qAa BK102.out 2
   have hfz8_3 := qAa BK102.out 3
   have hfz8_4 := qAa BK102.out 4
   have hfz8_5 := qAa BK102.out 5
   go_wp2_with (first | (go_at_call 28; (with_reducible refine (hogsheadlaw0_GreatTexts.calls k _ _ l0_5 100 100 t103 _ ?side1 ?side2 A7.out).mono ?_); (case side1 => repeat (first | exact (Kd.C_below HR0_5.out HB.out) | (with_reducible refine Kd.C_alloc ?_ _) | (with_reducible refine Kd.C_drewN ?_ _) | (with_reducible refine Kd.C_drew ?_))); (case side2 => exact HC0_5.out); rintro e w' ⟨rfl, ⟨nd, rfl⟩⟩))
   go_meet
   case rel => exact ⟨_, (t103), (by first | rfl | (simp; done) | (simp [*]; done) | exact congrArg Value.bool (nil_ne _) | exact congrArg Value.bool (nil_eq _) | exact congrArg Value.bool (nil_ne' _)), H', ⟨by first | omega | exact Nat.le_refl _⟩, ⟨by (with_reducible repeat (first | refine qAg ?_ _ | refine qAh ?_ | refine blk_alloc ?_ _)); exact BK102.out⟩, ⟨by repeat (first | (with_reducible first | exact HB.out | apply qAd | apply qAc | apply qAe | refine qAf ?_ GE102.out) | exact HB.out)⟩⟩
 case rest =>
  clear HC3
  try clear p2
  try clear c4
  try clear c5
  try clear c5b0
  try clear c5b1
  try clear hcz6_0
  try clear hcz6_1
  try clear hcz6_2
  try clear hcz6_3
  try clear hcz6_4
  try clear hcz6_5
  try clear hcz8_0
  try clear hcz8_1
  try clear hcz8_2
  try clear hcz8_3
  try clear hcz8_4
  try clear hcz8_5
  try clear hfz6_0
  try clear hfz6_1
  try clear hfz6_2
  try clear hfz6_3
  try clear hfz6_4
  try clear hfz6_5
  try clear hfz8_0
  try clear hfz8_1
  try clear hfz8_2
  try clear hfz8_3
  try clear hfz8_4
  try clear hfz8_5
  obtain ⟨kq, x15_2, rfl, HA, HJ2, BK102, HB⟩ := hcut
  cases kq with
  | zero => exact absurd HA.out (by simp [hogsheadlaw0_count.j0])
  | succ kj2 =>
   have H := HA.out
   clear HA
   simp only [hogsheadlaw0_count.j0] at H
   by_cases c9 : x15_2 = true
   ·subst c9
    have H1 : (some a1) = some r := by rw [if_pos rfl] at H; exact H
    clear H
    have H := H1
    clear H1
    obtain rfl := Option.some.inj H
    go_wp2
    go_ret
    exact ⟨by first | rfl | (simp [qAl, qAk] <;> rfl) | (simp [*, qAl, qAk] <;> rfl), by repeat (first | (with_reducible first | exact HB.out | apply qAd | apply qAc | apply qAe | refine qAf ?_ GE102.out) | exact HB.out)⟩
   ·replace c9 := Bool.eq_false_iff.mpr c9
    subst c9
    have H1 : (hogsheadlaw0_count.l0 kj2 a1 1 0 a0_0 a0_1 a0_2 a0_3 l0_4 l0_5) = some r := by rw [if_neg (show ¬ (false = true) by decide)] at H; exact H
    clear H
    have H := H1
    clear H1
    have H' := Aside0.mk H
    clear H
    go_wp2
    go_loopg [5, 6] kj2 (fun kq v5 v6 w' => ∃ (x5_2 : Int) (x6_2 : Int), v5 = .int .i64 x5_2 ∧ v6 = .int .i64 x6_2 ∧ Aside0 (hogsheadlaw0_count.l0 kq a1 x5_2 x6_2 a0_0 a0_1 a0_2 a0_3 l0_4 l0_5 = some r) ∧ Aside0 (kq ≤ kj2) ∧ Aside0 (w'.heap[gb102]? = some (.cells #[.int .i64 a0_0, .bool a0_1, .int .i64 a0_2, .string a0_3, (.slice A0_4 l0_4.length c0_4), (.slice A0_5 l0_5.length c0_5)] 25 (0, 0))) ∧ Aside0 (Below w.heap.size w w'))
    case atStart => exact ⟨(1), (0), (by first | rfl | (simp; done) | (simp [*]; done) | exact congrArg Value.bool (nil_ne _) | exact congrArg Value.bool (nil_eq _) | exact congrArg Value.bool (nil_ne' _)), (by first | rfl | (simp; done) | (simp [*]; done) | exact congrArg Value.bool (nil_ne _) | exact congrArg Value.bool (nil_eq _) | exact congrArg Value.bool (nil_ne' _)), H', ⟨Nat.le_refl _⟩, ⟨by (with_reducible repeat (first | refine qAg ?_ _ | refine qAh ?_ | refine blk_alloc ?_ _)); exact BK102.out⟩, ⟨by repeat (first | (with_reducible first | exact HB.out | apply qAd | apply qAc | apply qAe | refine qAf ?_ GE102.out) | exact HB.out)⟩⟩
    case round =>
     clear H'
     try clear p2
     try clear c4
     try clear c5
     try clear c5b0
     try clear c5b1
     try clear c9
     try clear hcz6_0
     try clear hcz6_1
     try clear hcz6_2
     try clear hcz6_3
     try clear hcz6_4
     try clear hcz6_5
     try clear hcz8_0
     try clear hcz8_1
     try clear hcz8_2
     try clear hcz8_3
     try clear hcz8_4
     try clear hcz8_5
     try clear hfz6_0
     try clear hfz6_1
     try clear hfz6_2
     try clear hfz6_3
     try clear hfz6_4
     try clear hfz6_5
     try clear hfz8_0
     try clear hfz8_1
     try clear hfz8_2
     try clear hfz8_3
     try clear hfz8_4
     try clear hfz8_5
     try clear p2
     obtain ⟨x5_2, x6_2, rfl, rfl, HA, HK2, BK102, HB⟩ := hrel
     cases gk with
     | zero => exact absurd HA.out (by simp [hogsheadlaw0_count.l0])
     | succ k2 =>
      have H := HA.out
      clear HA
      simp only [hogsheadlaw0_count.l0] at H
      by_cases c10 : x6_2 < (l0_4.length : Int)
      ·rw [if_pos c10] at H
       have c10b0 : decide (x6_2 < (l0_4.length : Int)) = true := decide_eq_true c10
       clear c10
       by_cases c11 : x5_2 < a1
       ·rw [if_pos c11] at H
        have c11b0 : decide (x5_2 < a1) = true := decide_eq_true c11
        clear c11
        by_cases c12 : 0 ≤ x6_2
        ·rw [if_pos c12] at H
         have c12b0 : decide (0 ≤ x6_2) = true := decide_eq_true c12
         clear c12
         replace H := Option.bind_eq_some_iff.mp H
         obtain ⟨t105, A130, H⟩ := H
         replace H : (hogsheadlaw0_count.l0 k2 a1 (wrap64 (x5_2 + t105)) (wrap64 (x6_2 + 1)) a0_0 a0_1 a0_2 a0_3 l0_4 l0_5) = some r := H
         have A13 := Aside0.mk A130
         clear A130
         have H' := Aside0.mk H
         clear H
         have hcz14_0 : wr.cell? ⟨gb102, 0, none⟩ = some (.int .i64 a0_0) := (qAb BK102.out 0).trans rfl
         have hcz14_1 : wr.cell? ⟨gb102, 1, none⟩ = some (.bool a0_1) := (qAb BK102.out 1).trans rfl
         have hcz14_2 : wr.cell? ⟨gb102, 2, none⟩ = some (.int .i64 a0_2) := (qAb BK102.out 2).trans rfl
         have hcz14_3 : wr.cell? ⟨gb102, 3, none⟩ = some (.string a0_3) := (qAb BK102.out 3).trans rfl
         have hcz14_4 : wr.cell? ⟨gb102, 4, none⟩ = some (.slice A0_4 l0_4.length c0_4) := (qAb BK102.out 4).trans rfl
         have hcz14_5 : wr.cell? ⟨gb102, 5, none⟩ = some (.slice A0_5 l0_5.length c0_5) := (qAb BK102.out 5).trans rfl
         have hfz14_0 := qAa BK102.out 0
         have hfz14_1 := qAa BK102.out 1
         have hfz14_2 := qAa BK102.out 2
         have hfz14_3 := qAa BK102.out 3
         have hfz14_4 := qAa BK102.out 4
         have hfz14_5 := qAa BK102.out 5
         have p104 : 0 ≤ (x6_2 : Int) := of_decide_eq_true (by first | (with_reducible assumption) | assumption)
         have q104 : x6_2 < (l0_4.length : Int) := of_decide_eq_true (by first | (with_reducible assumption) | assumption)
         obtain ⟨ad104, A104_4, c104_4, A104_5, c104_5, e104, hx104_0, hx104_1, hx104_2, hx104_3, hx104_4, hx104_5, hl104_4, hi104_4, hl104_5, hi104_5⟩ := at_T25 HR0_4.out x6_2 p104 q104
         cases e104
         replace hx104_0 := (HB.out.cell (World.block_lt_of_cell? w _ hx104_0)).trans hx104_0
         replace hx104_1 := (HB.out.cell (World.block_lt_of_cell? w _ hx104_1)).trans hx104_1
         replace hx104_2 := (HB.out.cell (World.block_lt_of_cell? w _ hx104_2)).trans hx104_2
         replace hx104_3 := (HB.out.cell (World.block_lt_of_cell? w _ hx104_3)).trans hx104_3
         replace hx104_4 := (HB.out.cell (World.block_lt_of_cell? w _ hx104_4)).trans hx104_4
         replace hx104_5 := (HB.out.cell (World.block_lt_of_cell? w _ hx104_5)).trans hx104_5
         have HR104_4 := Aside0.mk hi104_4
         have HC104_4 := Aside0.mk hl104_4
         clear hi104_4 hl104_4
         have HR104_5 := Aside0.mk hi104_5
         have HC104_5 := Aside0.mk hl104_5
         clear hi104_5 hl104_5
         replace p104 := eq_true p104
         replace q104 := eq_true q104
         go_wp2_with (first | ((with_reducible refine qAp (f := 46) rfl ?_); refine goesL_ (some 38) rfl rfl Tryd.func46 (by kernel_rfl) rfl #[.agg #[.int .i64 ((rd_T25 l0_4 x6_2).f0), .bool ((rd_T25 l0_4 x6_2).f1), .int .i64 ((rd_T25 l0_4 x6_2).f2), .string ((rd_T25 l0_4 x6_2).f3), .slice A104_4 ((rd_T25 l0_4 x6_2).f4).length c104_4, .slice A104_5 ((rd_T25 l0_4 x6_2).f5).length c104_5], .int .i64 (wrap64 (a1 - x5_2))] rfl (by (try simp only [List.map_toArray, List.map_cons, List.map_nil]); first | done | rfl | (simp only [List.length_drop, List.length_take]; rfl)) ?_; (with_reducible refine (ih k2 (by have := HJ2.out; have := HK2.out; omega) ((rd_T25 l0_4 x6_2).f0) ((rd_T25 l0_4 x6_2).f1) ((rd_T25 l0_4 x6_2).f2) ((rd_T25 l0_4 x6_2).f3) _ _ ((rd_T25 l0_4 x6_2).f4) _ _ ((rd_T25 l0_4 x6_2).f5) (wrap64 (a1 - x5_2)) t105 _ ?side1 ?side2 ?side3 ?side4 A13.out).mono ?_); (case side1 => repeat (first | exact (Kd.C_below HR104_4.out HB.out) | (with_reducible refine Kd.C_alloc ?_ _) | (with_reducible refine Kd.C_drewN ?_ _) | (with_reducible refine Kd.C_drew ?_))); (case side2 => exact HC104_4.out); (case side3 => repeat (first | exact (Kd.C_below HR104_5.out HB.out) | (with_reducible refine Kd.C_alloc ?_ _) | (with_reducible refine Kd.C_drewN ?_ _) | (with_reducible refine Kd.C_drew ?_))); (case side4 => exact HC104_5.out); rintro e w15 ⟨rfl, hb⟩; refine ⟨_, rfl, ?_⟩; have n0_ := Aside0.mk (qAj (g := gb102) (o := .cells #[.int .i64 a0_0, .bool a0_1, .int .i64 a0_2, .string a0_3, .slice (some ad104) l0_4.length c0_4, .slice A0_5 l0_5.length c0_5] 25 (0, 0)) (by (with_reducible repeat (first | refine qAg ?_ _ | refine qAh ?_ | refine blk_alloc ?_ _)); exact BK102.out) hb); have n1_ := Aside0.mk (qAi (by repeat (first | (with_reducible first | exact HB.out | apply qAd | apply qAc | apply qAe | refine qAf ?_ GE102.out) | exact HB.out)) hb); clear BK102; clear HB; have BK102 := n0_; have HB := n1_; clear n0_ n1_; (try clear hb); (try clear hb2); (try clear hk); (try clear hi)))
         go_roundg k2
         case measure => have := HJ2.out; have := HK2.out; omega
         case rel => exact ⟨(wrap64 (x5_2 + t105)), (wrap64 (x6_2 + 1)), (by first | rfl | (simp; done) | (simp [*]; done) | exact congrArg Value.bool (nil_ne _) | exact congrArg Value.bool (nil_eq _) | exact congrArg Value.bool (nil_ne' _)), (by first | rfl | (simp; done) | (simp [*]; done) | exact congrArg Value.bool (nil_ne _) | exact congrArg Value.bool (nil_eq _) | exact congrArg Value.bool (nil_ne' _)), H', ⟨by have := HJ2.out; have := HK2.out; omega⟩, ⟨by (with_reducible repeat (first | refine qAg ?_ _ | refine qAh ?_ | refine blk_alloc ?_ _)); exact BK102.out⟩, ⟨by repeat (first | (with_reducible first | exact HB.out | apply qAd | apply qAc | apply qAe | refine qAf ?_ GE102.out) | exact HB.out)⟩⟩
        ·rw [if_neg c12] at H
         exact absurd H (by simp)
       ·rw [if_neg c11] at H
        have c11b0 : decide (x5_2 < a1) = false := decide_eq_false c11
        clear c11
        obtain rfl := Option.some.inj H
        have hcz16_0 : wr.cell? ⟨gb102, 0, none⟩ = some (.int .i64 a0_0) := (qAb BK102.out 0).trans rfl
        have hcz16_1 : wr.cell? ⟨gb102, 1, none⟩ = some (.bool a0_1) := (qAb BK102.out 1).trans rfl
        have hcz16_2 : wr.cell? ⟨gb102, 2, none⟩ = some (.int .i64 a0_2) := (qAb BK102.out 2).trans rfl
        have hcz16_3 : wr.cell? ⟨gb102, 3, none⟩ = some (.string a0_3) := (qAb BK102.out 3).trans rfl
        have hcz16_4 : wr.cell? ⟨gb102, 4, none⟩ = some (.slice A0_4 l0_4.length c0_4) := (qAb BK102.out 4).trans rfl
        have hcz16_5 : wr.cell? ⟨gb102, 5, none⟩ = some (.slice A0_5 l0_5.length c0_5) := (qAb BK102.out 5).trans rfl
        have hfz16_0 := qAa BK102.out 0
        have hfz16_1 := qAa BK102.out 1
        have hfz16_2 := qAa BK102.out 2
        have hfz16_3 := qAa BK102.out 3
        have hfz16_4 := qAa BK102.out 4
        have hfz16_5 := qAa BK102.out 5
        go_wp2
        go_ret
        exact ⟨by first | rfl | (simp [qAl, qAk] <;> rfl) | (simp [*, qAl, qAk] <;> rfl), by repeat (first | (with_reducible first | exact HB.out | apply qAd | apply qAc | apply qAe | refine qAf ?_ GE102.out) | exact HB.out)⟩
      ·rw [if_neg c10] at H
       have c10b0 : decide (x6_2 < (l0_4.length : Int)) = false := decide_eq_false c10
       clear c10
       obtain rfl := Option.some.inj H
       have hcz17_0 : wr.cell? ⟨gb102, 0, none⟩ = some (.int .i64 a0_0) := (qAb BK102.out 0).trans rfl
       have hcz17_1 : wr.cell? ⟨gb102, 1, none⟩ = some (.bool a0_1) := (qAb BK102.out 1).trans rfl
       have hcz17_2 : wr.cell? ⟨gb102, 2, none⟩ = some (.int .i64 a0_2) := (qAb BK102.out 2).trans rfl
       have hcz17_3 : wr.cell? ⟨gb102, 3, none⟩ = some (.string a0_3) := (qAb BK102.out 3).trans rfl
       have hcz17_4 : wr.cell? ⟨gb102, 4, none⟩ = some (.slice A0_4 l0_4.length c0_4) := (qAb BK102.out 4).trans rfl
       have hcz17_5 : wr.cell? ⟨gb102, 5, none⟩ = some (.slice A0_5 l0_5.length c0_5) := (qAb BK102.out 5).trans rfl
       have hfz17_0 := qAa BK102.out 0
       have hfz17_1 := qAa BK102.out 1
       have hfz17_2 := qAa BK102.out 2
       have hfz17_3 := qAa BK102.out 3
       have hfz17_4 := qAa BK102.out 4
       have hfz17_5 := qAa BK102.out 5
       go_wp2
       go_ret
       exact ⟨by first | rfl | (simp [qAl, qAk] <;> rfl) | (simp [*, qAl, qAk] <;> rfl), by repeat (first | (with_reducible first | exact HB.out | apply qAd | apply qAc | apply qAe | refine qAf ?_ GE102.out) | exact HB.out)⟩
end Go.Proofs.YtbnoihpooeombaaDoor.P

namespace Go.Proofs.YtbnoihpooeombaaDoor.P
open Go.Proofs.YtbnoihpooeombaaDoor.X
open Go.RowKit Go.Proofs.YtbnoihpooeombaaDoorW.PrintWords Go.Proofs.YtbnoihpooeombaaDoorW.PrintLast Go.Proofs.YtbnoihpooeombaaDoorW.PrintMore
attribute [local go_sem] qAr qAu
set_option linter.unusedVariables false
set_option linter.unusedSimpArgs false
def hogsheadlaw0_GreatValue.f (k : Nat) (a0_0 : Int) (a0_1 : Bool) (a0_2 : Int) (a0_3 : ByteArray) (l0_4 : List (S25)) (l0_5 : List ByteArray) (a1 : Int) : Option (Bool) := (hogsheadlaw0_count.f k a0_0 a0_1 a0_2 a0_3 l0_4 l0_5 (wrap64 (a1 + 1))).bind fun t107 => (some (decide (t107 > a1)))
set_option maxHeartbeats 8000000 in
set_option maxRecDepth 100000 in
theorem hogsheadlaw0_GreatValue.calls (k : Nat) (a0_0 : Int) (a0_1 : Bool) (a0_2 : Int) (a0_3 : ByteArray) (A0_4 : Option Addr) (c0_4 : Nat) (l0_4 : List (S25)) (A0_5 : Option Addr) (c0_5 : Nat) (l0_5 : List ByteArray) (a1 : Int) (r : Bool) (w : World) (hr0_4 : Kd.C k25 w A0_4 l0_4.length l0_4) (hc0_4 : l0_4.length ≤ c0_4) (hr0_5 : Kd.C Kd.string w A0_5 l0_5.length l0_5) (hc0_5 : l0_5.length ≤ c0_5) (h : hogsheadlaw0_GreatValue.f k a0_0 a0_1 a0_2 a0_3 l0_4 l0_5 a1 = some r) :
  Calls Tryd.prog 14 #[.agg #[.int .i64 a0_0, .bool a0_1, .int .i64 a0_2, .string a0_3, .slice A0_4 l0_4.length c0_4, .slice A0_5 l0_5.length c0_5], .int .i64 a1] w fun e w' => e = .returned (.bool r) ∧ Below w.heap.size w w' := by
 have hu25 := Tryd.underlying25
 have HR0_4 := Aside0.mk hr0_4
 have HC0_4 := Aside0.mk hc0_4
 clear hr0_4 hc0_4
 have HR0_5 := Aside0.mk hr0_5
 have HC0_5 := Aside0.mk hc0_5
 clear hr0_5 hc0_5
 have HB := Aside0.mk (Below.refl w.heap.size w)
 have H : ((hogsheadlaw0_count.f k a0_0 a0_1 a0_2 a0_3 l0_4 l0_5 (wrap64 (a1 + 1))).bind fun t107 => (some (decide (t107 > a1)))) = some r := h
 clear h
 replace H := Option.bind_eq_some_iff.mp H
 obtain ⟨t107, A30, H⟩ := H
 replace H : (some (decide (t107 > a1))) = some r := H
 have A3 := Aside0.mk A30
 clear A30
 obtain rfl := Option.some.inj H
 go_enter Tryd.func14, Tryd.ntmps14
 go_wp2_with (first | ((with_reducible refine qAy (N := 2) rfl ?_); refine qA1 ?hg (N := 2) ?hd (cs := #[.int .i64 a0_0, .bool a0_1, .int .i64 a0_2, .string a0_3, .slice A0_4 l0_4.length c0_4, .slice A0_5 l0_5.length c0_5]) (t := 25) ?hr ?_; (case hd => rfl); (case hg => rfl); (case hr => first | (go_simp; done) | (go_simp; rfl)); intro gb106 hg w4 hbox hb; have n0_ := Aside0.mk (qAi (by repeat (first | (with_reducible first | exact HB.out | apply qAd | apply qAc | apply qAe) | exact HB.out)) hb); have n1_ := Aside0.mk (hbox); have n2_ := Aside0.mk ((by rw [hg]; exact (qAn (by repeat (first | (with_reducible first | exact HB.out | apply qAd | apply qAc | apply qAe) | exact HB.out))) : w.heap.size ≤ gb106)); have n3_ := Aside0.mk ((by rw [hg]; exact (qAn (by repeat (first | (with_reducible first | exact HB.out | apply qAd | apply qAc | apply qAe) | exact HB.out))) : w.heap.size ≤ gb106)); clear HB; have HB := n0_; have BK106 := n1_; have GW106 := n2_; have GE106 := n3_; clear n0_ n1_ n2_ n3_; clear hb hbox hg; have hcz5_0 : w4.cell? ⟨gb106, 0, none⟩ = some (.int .i64 a0_0) := (qAb BK106.out 0).trans rfl; have hcz5_1 : w4.cell? ⟨gb106, 1, none⟩ = some (.bool a0_1) := (qAb BK106.out 1).trans rfl; have hcz5_2 : w4.cell? ⟨gb106, 2, none⟩ = some (.int .i64 a0_2) := (qAb BK106.out 2).trans rfl; have hcz5_3 : w4.cell? ⟨gb106, 3, none⟩ = some (.string a0_3) := (qAb BK106.out 3).trans rfl; have hcz5_4 : w4.cell? ⟨gb106, 4, none⟩ = some (.slice A0_4 l0_4.length c0_4) := (qAb BK106.out 4).trans rfl; have hcz5_5 : w4.cell? ⟨gb106, 5, none⟩ = some (.slice A0_5 l0_5.length c0_5) := (qAb BK106.out 5).trans rfl; have hfz5_0 := qAa BK106.out 0; have hfz5_1 := qAa BK106.out 1; have hfz5_2 := qAa BK106.out 2; have hfz5_3 := qAa BK106.out 3; have hfz5_4 := qAa BK106.out 4; have hfz5_5 := qAa BK106.out 5) | ((with_reducible refine qAp (f := 46) rfl ?_); refine goesL_ (some 8) rfl rfl Tryd.func46 (by kernel_rfl) rfl #[.agg #[.int .i64 a0_0, .bool a0_1, .int .i64 a0_2, .string a0_3, .slice A0_4 l0_4.length c0_4, .slice A0_5 l0_5.length c0_5], .int .i64 (wrap64 (a1 + 1))] rfl (by (try simp only [List.map_toArray, List.map_cons, List.map_nil]); first | done | rfl | (simp only [List.length_drop, List.length_take]; rfl)) ?_; (with_reducible refine (hogsheadlaw0_count.calls k a0_0 a0_1 a0_2 a0_3 _ _ l0_4 _ _ l0_5 (wrap64 (a1 + 1)) t107 _ ?side1 ?side2 ?side3 ?side4 A3.out).mono ?_); (case side1 => repeat (first | exact (Kd.C_below HR0_4.out HB.out) | (with_reducible refine Kd.C_alloc ?_ _) | (with_reducible refine Kd.C_drewN ?_ _) | (with_reducible refine Kd.C_drew ?_))); (case side2 => exact HC0_4.out); (case side3 => repeat (first | exact (Kd.C_below HR0_5.out HB.out) | (with_reducible refine Kd.C_alloc ?_ _) | (with_reducible refine Kd.C_drewN ?_ _) | (with_reducible refine Kd.C_drew ?_))); (case side4 => exact HC0_5.out); rintro e w6 ⟨rfl, hb⟩; refine ⟨_, rfl, ?_⟩; have n0_ := Aside0.mk (qAj (g := gb106) (o := .cells #[.int .i64 a0_0, .bool a0_1, .int .i64 a0_2, .string a0_3, .slice A0_4 l0_4.length c0_4, .slice A0_5 l0_5.length c0_5] 25 (0, 0)) (by (with_reducible repeat (first | refine qAg ?_ _ | refine qAh ?_ | refine blk_alloc ?_ _)); exact BK106.out) hb); have n1_ := Aside0.mk (qAi (by repeat (first | (with_reducible first | exact HB.out | apply qAd | apply qAc | apply qAe | refine qAf ?_ GE106.out) | exact HB.out)) hb); clear BK106; clear HB; have BK106 := n0_; have HB := n1_; clear n0_ n1_; (try clear hb); (try clear hb2); (try clear hk); (try clear hi)))
 go_ret
 exact ⟨by first | rfl | (simp [qAl, qAk] <;> rfl) | (simp [*, qAl, qAk] <;> rfl), by repeat (first | (with_reducible first | exact HB.out | apply qAd | apply qAc | apply qAe | refine qAf ?_ GE106.out) | exact HB.out)⟩
end Go.Proofs.YtbnoihpooeombaaDoor.P

namespace Go.Proofs.YtbnoihpooeombaaDoor.X
open Go.RowKit Go.Proofs.YtbnoihpooeombaaDoorW.PrintWords Go.Proofs.YtbnoihpooeombaaDoor.P
set_option linter.unusedVariables false
set_option linter.unusedSimpArgs false
theorem qBn {z : Int} {m : Nat} (h : z = (m : Int)) (hm : m ≤ 9223372036854775807) : wrap64 z = (m : Int) := by subst h; unfold wrap64; omega
theorem qB5 (l : List S25) (i : Nat) (h : i < l.length) : rd_T25 l (i : Int) = l[i] := by
  simp [rd_T25, List.getD_eq_getElem?_getD, h]
theorem qHh {x y : S25} (h : y ∈ x.f4) : SizeOf.sizeOf y < SizeOf.sizeOf x := by
  have h1 := List.sizeOf_lt_of_mem h
  cases x
  simp only [S25.mk.sizeOf_spec] at *
  omega
def tameD : Nat → S25 → Prop
  | 0, _ => False
  | d + 1, x => x.f3.size ≤ 100 ∧ x.f5.length ≤ 100 ∧ (∀ s ∈ x.f5, s.size ≤ 100) ∧ ∀ y ∈ x.f4, tameD d y
def nodesV : Nat → S25 → Nat
  | 0, _ => 0
  | d + 1, x => 1 + (x.f4.map (nodesV d)).sum
theorem qFc : ∀ d x, tameD d x → tameD (d + 1) x ∧ nodesV (d + 1) x = nodesV d x
  | 0, x, h => h.elim
  | d + 1, x, h => by
    have ih := qFc d
    obtain ⟨h1, h2, h3, h4⟩ := h
    refine ⟨⟨h1, h2, h3, fun y hy => (ih y (h4 y hy)).1⟩, ?_⟩
    rw [nodesV, nodesV]
    congr 2
    exact List.map_congr_left fun y hy => (ih y (h4 y hy)).2
theorem qBw {d e : Nat} (h : d ≤ e) (x : S25) (ht : tameD d x) : tameD e x ∧ nodesV e x = nodesV d x := by
  induction e with
  | zero => obtain rfl : d = 0 := by omega
            exact ⟨ht, rfl⟩
  | succ e ih =>
    by_cases c : d = e + 1
    · subst c; exact ⟨ht, rfl⟩
    · obtain ⟨h1, h2⟩ := ih (by omega)
      obtain ⟨h3, h4⟩ := qFc e x h1
      exact ⟨h3, h4.trans h2⟩
theorem qFt : ∀ d x, tameD d x → 1 ≤ nodesV d x
  | 0, _, h => h.elim
  | d + 1, x, _ => by rw [nodesV]; omega
theorem sum_ge {f : S25 → Nat} : ∀ (l : List S25), (∀ y ∈ l, 1 ≤ f y) → l.length ≤ (l.map f).sum
  | [], _ => by simp
  | y :: l, h => by
    have := sum_ge l (fun z hz => h z (List.mem_cons_of_mem _ hz))
    have := h y (List.mem_cons_self ..)
    simp only [List.length_cons, List.map_cons, List.sum_cons]
    omega
theorem qF4 {f : S25 → Nat} {y : S25} : ∀ (l : List S25), y ∈ l → f y ≤ (l.map f).sum
  | [], h => by cases h
  | z :: l, h => by
    simp only [List.map_cons, List.sum_cons]
    rcases List.mem_cons.1 h with rfl | h
    · omega
    · have := qF4 (f := f) l h; omega
theorem qEu {d : Nat} {x y : S25} (h : y ∈ x.f4) : nodesV d y < nodesV (d + 1) x := by
  have := qF4 (f := nodesV d) x.f4 h
  rw [nodesV]; omega
theorem qGi {d : Nat} {x : S25} (h : tameD (d + 1) x) : x.f4.length < nodesV (d + 1) x := by
  have := sum_ge (f := nodesV d) x.f4 (fun y hy => qFt d y (h.2.2.2 y hy))
  rw [nodesV]; omega
theorem qDy (l : List ByteArray) (m z : Int) (hn : m ≤ 9223372036854775807) : ∀ (d i : Nat), l.length - i = d → i ≤ l.length → (l.length : Int) ≤ m → Ev (fun k => hogsheadlaw0_GreatTexts.l0 k l m z (i : Int)) (decide (∃ s ∈ l.drop i, (s.size : Int) > z)) := by
  intro d
  induction d with
  | zero =>
    intro i hd hi hm
    refine ⟨2, fun k hk => ?_⟩
    obtain ⟨k, rfl⟩ : ∃ m, k = m + 2 := ⟨k - 2, by omega⟩
    simp only [hogsheadlaw0_GreatTexts.l0]
    rw [if_neg (by omega)]
    simp only [hogsheadlaw0_GreatTexts.j1]
    rw [if_neg (by decide), List.drop_eq_nil_of_le (by omega)]
    congr 1
    rw [decide_eq_false (by omega)]
    simp
  | succ d ih =>
    intro i hd hi hm
    have hlt : i < l.length := by omega
    obtain ⟨K, hK⟩ := ih (i + 1) (by omega) (by omega) hm
    refine ⟨K + 2, fun k hk => ?_⟩
    obtain ⟨k, rfl⟩ : ∃ m, k = m + 2 := ⟨k - 2, by omega⟩
    have hK := hK k (by omega)
    simp only at hK
    simp only [hogsheadlaw0_GreatTexts.l0]
    rw [if_pos (by omega)]
    simp only [hogsheadlaw0_GreatTexts.j1]
    rw [if_pos (decide_eq_true hm), if_pos (by omega), if_pos (by omega), qAx l i hlt, wrap_i i l.length hlt (by omega), hK, List.drop_eq_getElem_cons hlt]
    by_cases c : (l[i].size : Int) > z
    · rw [if_pos c]
      congr 1
      exact (decide_eq_true ⟨l[i], List.mem_cons_self .., c⟩).symm
    · rw [if_neg c]
      congr 1
      rw [decide_eq_decide]
      constructor
      · rintro ⟨s, hs, h⟩; exact ⟨s, List.mem_cons_of_mem _ hs, h⟩
      · rintro ⟨s, hs, h⟩
        rcases List.mem_cons.1 hs with rfl | hs
        · exact absurd h c
        · exact ⟨s, hs, h⟩
theorem qDz (l : List ByteArray) (m z : Int) (hn : m ≤ 9223372036854775807) : Ev (fun k => hogsheadlaw0_GreatTexts.f k l m z) (decide ((l.length : Int) > m ∨ ∃ s ∈ l, (s.size : Int) > z)) := by
  by_cases hm : (l.length : Int) ≤ m
  · have := qDy l m z hn l.length 0 (by omega) (by omega) hm
    rw [List.drop_zero] at this
    have e : decide ((l.length : Int) > m ∨ ∃ s ∈ l, (s.size : Int) > z) = decide (∃ s ∈ l, (s.size : Int) > z) := by
      rw [decide_eq_decide]
      exact ⟨fun h => h.elim (fun h => absurd h (by omega)) id, .inr⟩
    rw [e]
    exact this
  · refine ⟨2, fun k hk => ?_⟩
    obtain ⟨k, rfl⟩ : ∃ m, k = m + 2 := ⟨k - 2, by omega⟩
    show hogsheadlaw0_GreatTexts.l0 _ l m z 0 = _
    simp only [hogsheadlaw0_GreatTexts.l0]
    have e : decide ((l.length : Int) > m ∨ ∃ s ∈ l, (s.size : Int) > z) = true := decide_eq_true (.inl (by omega))
    rw [e]
    split
    · simp only [hogsheadlaw0_GreatTexts.j1]
      rw [if_neg (by rw [decide_eq_true_eq]; exact hm), decide_eq_true (by omega)]
    · simp only [hogsheadlaw0_GreatTexts.j1]
      rw [if_neg (by decide), decide_eq_true (by omega)]
def qG0 (x : S25) (most : Nat) (r : Nat) : Prop := 1 ≤ r ∧ r ≤ most ∧ (r < most → ∃ d, d ≤ r ∧ tameD d x ∧ nodesV d x = r)
theorem qHf (x : S25) (most : Nat) (h2 : most ≤ 100000) (hc : ∀ y ∈ x.f4, ∀ m : Nat, 1 ≤ m → m ≤ 100000 → ∃ r : Nat, Ev (fun k => hogsheadlaw0_count.f k y.f0 y.f1 y.f2 y.f3 y.f4 y.f5 (m : Int)) (r : Int) ∧ qG0 y m r) :
    ∀ (j i n : Nat), most - n ≤ j → 1 ≤ n → n ≤ most → i < n → i ≤ x.f4.length → ∃ r : Nat, Ev (fun k => hogsheadlaw0_count.l0 k (most : Int) (n : Int) (i : Int) x.f0 x.f1 x.f2 x.f3 x.f4 x.f5) (r : Int) ∧ n ≤ r ∧ r ≤ most ∧ (r < most → ∃ d, d ≤ r - n ∧ (∀ y ∈ x.f4.drop i, tameD d y) ∧ r = n + ((x.f4.drop i).map (nodesV d)).sum) := by
  intro j
  induction j with
  | zero =>
    intro i n hj h1 hn hi hl
    refine ⟨n, ⟨1, fun k hk => ?_⟩, Nat.le_refl _, hn, fun h => by omega⟩
    obtain ⟨k, rfl⟩ : ∃ m, k = m + 1 := ⟨k - 1, by omega⟩
    simp only [hogsheadlaw0_count.l0]
    by_cases c : (i : Int) < (x.f4.length : Int)
    · rw [if_pos c, if_neg (by omega)]
    · rw [if_neg c]
  | succ j ih =>
    intro i n hj h1 hn hi hl
    by_cases c : i < x.f4.length
    · by_cases c2 : n < most
      · obtain ⟨cc, ⟨K1, hK1⟩, hc1, hc2, hc3⟩ := hc x.f4[i] (List.getElem_mem c) (most - n) (by omega) (by omega)
        obtain ⟨r, ⟨K2, hK2⟩, hr1, hr2, hr3⟩ := ih (i + 1) (n + cc) (by omega) (by omega) (by omega) (by omega) (by omega)
        have HC3 := Aside0.mk hc3
        have HR3 := Aside0.mk hr3
        clear hc3 hr3
        refine ⟨r, ⟨K1 + K2 + 1, fun k hk => ?_⟩, by omega, hr2, fun h => ?_⟩
        · obtain ⟨k, rfl⟩ : ∃ m, k = m + 1 := ⟨k - 1, by omega⟩
          have hK1 := hK1 k (by omega)
          have hK2 := hK2 k (by omega)
          simp only at hK1 hK2
          have E1 : Aside0 (wrap64 ((most : Int) - (n : Int)) = ((most - n : Nat) : Int)) := ⟨qBn (by omega) (by omega)⟩
          have E2 : Aside0 (wrap64 ((n : Int) + (cc : Int)) = ((n + cc : Nat) : Int)) := ⟨qBn (by omega) (by omega)⟩
          have E3 : Aside0 (wrap64 ((i : Int) + 1) = ((i + 1 : Nat) : Int)) := ⟨qBn (by omega) (by omega)⟩
          simp only [hogsheadlaw0_count.l0]
          rw [if_pos (by omega), if_pos (by omega), if_pos (by omega), qB5 x.f4 i c, E1.out, hK1]
          simp only [Option.bind_some]
          rw [E2.out, E3.out]
          exact hK2
        · obtain ⟨d1, hd1, ht1, hn1⟩ := HC3.out (by omega)
          obtain ⟨d2, hd2, ht2, hn2⟩ := HR3.out h
          refine ⟨max d1 d2, by omega, fun y hy => ?_, ?_⟩
          · rw [List.drop_eq_getElem_cons c] at hy
            rcases List.mem_cons.1 hy with rfl | hy
            · exact (qBw (Nat.le_max_left _ _) _ ht1).1
            · exact (qBw (Nat.le_max_right _ _) _ (ht2 y hy)).1
          · rw [List.drop_eq_getElem_cons c, List.map_cons, List.sum_cons, (qBw (Nat.le_max_left d1 d2) _ ht1).2, hn1]
            have e : (x.f4.drop (i + 1)).map (nodesV (max d1 d2)) = (x.f4.drop (i + 1)).map (nodesV d2) := List.map_congr_left fun y hy => (qBw (Nat.le_max_right d1 d2) _ (ht2 y hy)).2
            rw [e]
            omega
      · refine ⟨n, ⟨1, fun k hk => ?_⟩, Nat.le_refl _, hn, fun h => by omega⟩
        obtain ⟨k, rfl⟩ : ∃ m, k = m + 1 := ⟨k - 1, by omega⟩
        simp only [hogsheadlaw0_count.l0]
        rw [if_pos (by omega), if_neg (by omega)]
    · refine ⟨n, ⟨1, fun k hk => ?_⟩, Nat.le_refl _, hn, fun h => ⟨0, by omega, ?_, ?_⟩⟩
      · obtain ⟨k, rfl⟩ : ∃ m, k = m + 1 := ⟨k - 1, by omega⟩
        simp only [hogsheadlaw0_count.l0]
        rw [if_neg (by omega)]
      · rw [List.drop_eq_nil_of_le (by omega)]; intro y hy; cases hy
      · rw [List.drop_eq_nil_of_le (by omega)]; simp
theorem qHg : ∀ (n : Nat) (x : S25), SizeOf.sizeOf x < n → ∀ most : Nat, 1 ≤ most → most ≤ 100000 →
    ∃ r : Nat, Ev (fun k => hogsheadlaw0_count.f k x.f0 x.f1 x.f2 x.f3 x.f4 x.f5 (most : Int)) (r : Int) ∧ qG0 x most r := by
  intro n
  induction n with
  | zero => intro x h; omega
  | succ n ih =>
    intro x hx most h1 h2
    obtain ⟨K1, hg⟩ := qDz x.f5 100 100 (by omega)
    by_cases c : ((x.f3.size : Int) > 100) ∨ ((x.f5.length : Int) > 100 ∨ ∃ s ∈ x.f5, (s.size : Int) > 100)
    · refine ⟨most, ⟨K1 + 2, fun k hk => ?_⟩, h1, Nat.le_refl _, fun h => by omega⟩
      obtain ⟨k, rfl⟩ : ∃ m, k = m + 2 := ⟨k - 2, by omega⟩
      have hg := hg (k + 1) (by omega)
      simp only at hg
      simp only [hogsheadlaw0_count.f]
      by_cases c1 : (x.f3.size : Int) > 100
      · rw [if_pos c1]
        simp only [hogsheadlaw0_count.j0]
        rw [if_pos trivial]
      · rw [if_neg c1, hg, decide_eq_true (c.resolve_left c1)]
        simp only [Option.bind_some, hogsheadlaw0_count.j0]
        rw [if_pos trivial]
    · obtain ⟨r, ⟨K2, hK2⟩, hr1, hr2, hr3⟩ := qHf x most h2 (fun y hy m hm1 hm2 => ih y (by have := qHh hy; omega) m hm1 hm2) most 0 1 (by omega) (by omega) h1 (by omega) (by omega)
      refine ⟨r, ⟨K1 + K2 + 2, fun k hk => ?_⟩, hr1, hr2, fun h => ?_⟩
      · obtain ⟨k, rfl⟩ : ∃ m, k = m + 2 := ⟨k - 2, by omega⟩
        have hg := hg (k + 1) (by omega)
        have hK2 := hK2 k (by omega)
        simp only at hg hK2
        simp only [hogsheadlaw0_count.f]
        rw [if_neg (fun h => c (.inl h)), hg, decide_eq_false (fun h => c (.inr h))]
        simp only [Option.bind_some, hogsheadlaw0_count.j0]
        rw [if_neg (by decide)]
        exact hK2
      · obtain ⟨d, hd, ht, hn⟩ := hr3 h
        rw [List.drop_zero] at ht hn
        refine ⟨d + 1, by omega, ⟨?_, ?_, ?_, ht⟩, ?_⟩
        · have h' : ¬ ((x.f3.size : Int) > 100) := fun h => c (.inl h)
          clear c; omega
        · have h' : ¬ ((x.f5.length : Int) > 100) := fun h => c (.inr (.inl h))
          clear c; omega
        · intro s hs
          have h' : ¬ ((s.size : Int) > 100) := fun h => c (.inr (.inr ⟨s, hs, h⟩))
          clear c; omega
        · rw [nodesV]; omega
def Small (most : Nat) (x : S25) : Prop := tameD most x ∧ nodesV most x ≤ most
theorem qHe (x : S25) (most : Nat) (hm : most ≤ 90000) : ∃ b, Ev (fun k => hogsheadlaw0_GreatValue.f k x.f0 x.f1 x.f2 x.f3 x.f4 x.f5 (most : Int)) b ∧ (b = false → Small most x) := by
  obtain ⟨r, ⟨K, hK⟩, h1, h2, h3⟩ := qHg (SizeOf.sizeOf x + 1) x (by omega) (most + 1) (by omega) (by omega)
  refine ⟨decide ((r : Int) > (most : Int)), ⟨K, fun k hk => ?_⟩, fun h => ?_⟩
  · have hK := hK k hk
    simp only at hK
    have e : wrap64 ((most : Int) + 1) = ((most + 1 : Nat) : Int) := qBn (by omega) (by omega)
    show hogsheadlaw0_GreatValue.f k _ _ _ _ _ _ _ = _
    unfold hogsheadlaw0_GreatValue.f
    rw [e, hK]
    rfl
  · have h := of_decide_eq_false h
    obtain ⟨d, hd, ht, hn⟩ := h3 (by omega)
    obtain ⟨h4, h5⟩ := qBw (show d ≤ most by omega) x ht
    exact ⟨h4, by omega⟩
end Go.Proofs.YtbnoihpooeombaaDoor.X

namespace Go.Proofs.YtbnoihpooeombaaDoor.X
open Go.RowKit Go.Proofs.YtbnoihpooeombaaDoorW.PrintWords Go.Proofs.YtbnoihpooeombaaDoor.P
set_option linter.unusedVariables false
set_option linter.unusedSimpArgs false
def goodV : Nat → S25 → Bool
  | 0, _ => false
  | d + 1, x => qA5 x && x.f4.all (goodV d)
theorem qFi (f : S25 → Nat → Nat × Bool) (g : S25 → Bool) (m : S25 → Nat) (hf : ∀ x n, n ≤ 4000 → ((f x n).2 = true ↔ g x = true ∧ n + m x ≤ 4000) ∧ ((f x n).2 = true → (f x n).1 = n + m x)) :
    ∀ l n, n ≤ 4000 → ((mayL f l n).2 = true ↔ l.all g = true ∧ n + (l.map m).sum ≤ 4000) ∧ ((mayL f l n).2 = true → (mayL f l n).1 = n + (l.map m).sum)
  | [], n, hn => by simp [mayL, hn]
  | x :: l, n, hn => by
    obtain ⟨h1, h2⟩ := hf x n hn
    unfold mayL
    simp only [List.all_cons, List.map_cons, List.sum_cons, Bool.and_eq_true]
    by_cases c : (f x n).2 = true
    · rw [if_pos c, h2 c]
      have hc := h1.1 c
      obtain ⟨h3, h4⟩ := qFi f g m hf l (n + m x) hc.2
      constructor
      · rw [h3]
        constructor
        · rintro ⟨a, b⟩; exact ⟨⟨hc.1, a⟩, by omega⟩
        · rintro ⟨⟨a, a2⟩, b⟩; exact ⟨a2, by omega⟩
      · intro h; rw [h4 h]; omega
    · rw [if_neg c]
      constructor
      · constructor
        · intro h; cases h
        · rintro ⟨⟨a, a2⟩, b⟩; exact absurd (h1.2 ⟨a, by omega⟩) c
      · intro h; cases h
theorem qFh : ∀ d x n, n ≤ 4000 → ((mayV d x n).2 = true ↔ goodV d x = true ∧ n + nodesV d x ≤ 4000) ∧ ((mayV d x n).2 = true → (mayV d x n).1 = n + nodesV d x)
  | 0, x, n, hn => by simp [mayV, goodV]
  | d + 1, x, n, hn => by
    unfold mayV
    rw [goodV, nodesV]
    by_cases c : n + 1 > 4000
    · rw [if_pos c]
      constructor
      · constructor
        · intro h; cases h
        · rintro ⟨_, b⟩; omega
      · intro h; cases h
    · rw [if_neg c]
      by_cases c2 : qA5 x = true
      · rw [if_pos c2, c2, Bool.true_and]
        obtain ⟨h1, h2⟩ := qFi (mayV d) (goodV d) (nodesV d) (qFh d) x.f4 (n + 1) (by omega)
        exact ⟨h1.trans ⟨fun h => ⟨h.1, by omega⟩, fun h => ⟨h.1, by omega⟩⟩, fun h => by rw [h2 h]; omega⟩
      · rw [if_neg c2, eq_false_of_ne_true c2, Bool.false_and]
        constructor
        · constructor
          · intro h; cases h
          · rintro ⟨h, _⟩; cases h
        · intro h; cases h
theorem qCy : ∀ d x, goodV d x = true → goodV (d + 1) x = true ∧ nodesV (d + 1) x = nodesV d x
  | 0, x, h => by simp [goodV] at h
  | d + 1, x, h => by
    rw [goodV, Bool.and_eq_true, List.all_eq_true] at h
    refine ⟨?_, ?_⟩
    · rw [goodV, Bool.and_eq_true, List.all_eq_true]
      exact ⟨h.1, fun y hy => (qCy d y (h.2 y hy)).1⟩
    · rw [nodesV, nodesV]
      congr 2
      exact List.map_congr_left fun y hy => (qCy d y (h.2 y hy)).2
theorem qFs {d e : Nat} (h : d ≤ e) (x : S25) (hg : goodV d x = true) : goodV e x = true ∧ nodesV e x = nodesV d x := by
  induction e with
  | zero => obtain rfl : d = 0 := by omega
            exact ⟨hg, rfl⟩
  | succ e ih =>
    by_cases c : d = e + 1
    · subst c; exact ⟨hg, rfl⟩
    · obtain ⟨h1, h2⟩ := ih (by omega)
      obtain ⟨h3, h4⟩ := qCy e x h1
      exact ⟨h3, h4.trans h2⟩
theorem qDn {d D : Nat} (x : S25) (hg : goodV d x = true) (ht : tameD D x) : nodesV d x = nodesV D x := by
  rw [← (qFs (Nat.le_max_left d D) x hg).2, (qBw (Nat.le_max_right d D) x ht).2]
def T (D n : Nat) (x : S25) : Prop := tameD D x ∧ nodesV D x ≤ n
theorem T.child {D n : Nat} {x y : S25} (h : T (D + 1) n x) (hy : y ∈ x.f4) : T D n y := ⟨h.1.2.2.2 y hy, by have := qEu (d := D) hy; have := h.2; omega⟩
theorem T.len {D n : Nat} {x : S25} (h : T D n x) : x.f4.length ≤ n ∧ x.f5.length ≤ 100 := by
  cases D with
  | zero => exact h.1.elim
  | succ D => exact ⟨by have := qGi h.1; have := h.2; omega, h.1.2.1⟩
theorem qB0 (D : Nat) (x : S25) (h : T D 4000 x) : (mayV 16 x 0).2 = goodV 16 x := by
  have h1 := (qFh 16 x 0 (by omega)).1
  rw [Bool.eq_iff_iff, h1]
  exact ⟨fun h => h.1, fun hg => ⟨hg, by rw [qDn x hg h.1]; have := h.2; omega⟩⟩
def plainB (x : S25) : Bool := (x.f0 == 1 || !x.f1) && (x.f0 == 2 || x.f2 == 0) && (x.f0 == 3 || x.f3.size == 0) && (x.f0 == 4 || x.f0 == 5 || x.f4.isEmpty) && (x.f0 == 5 || x.f5.isEmpty)
theorem qEj (x : S25) : qA5 x = (plainB x && (decide (0 ≤ x.f0) && (decide (x.f0 ≤ 5) && (decide (-9007199254740992 ≤ x.f2) && (decide (x.f2 ≤ 9007199254740992) && ((x.f0 != 5 || x.f5.length == x.f4.length) && qAv x.f5)))))) := by
  have hr : x.f5.isEmpty = true → qAv x.f5 = true := by
    intro h
    rw [List.isEmpty_iff] at h
    rw [h]; rfl
  have hk : x.f0 = 0 ∨ x.f0 = 1 ∨ x.f0 = 2 ∨ x.f0 = 3 ∨ x.f0 = 4 ∨ x.f0 = 5 ∨ (x.f0 < 0 ∨ 5 < x.f0) := by omega
  unfold qA5 plainB
  generalize (x.f5.length == x.f4.length) = bl at *
  generalize qAv x.f5 = r at *
  generalize x.f4.isEmpty = e4 at *
  generalize x.f5.isEmpty = e5 at *
  generalize (x.f3.size == 0) = b3
  generalize x.f1 = b1
  rcases hk with c | c | c | c | c | c | c
  · rw [c]; cases b1 <;> cases b3 <;> cases e4 <;> cases e5 <;> cases r <;> by_cases c6 : x.f2 = 0 <;> simp_all
  · rw [c]; cases b1 <;> cases b3 <;> cases e4 <;> cases e5 <;> cases r <;> by_cases c6 : x.f2 = 0 <;> simp_all
  · rw [c]; cases b1 <;> cases b3 <;> cases e4 <;> cases e5 <;> cases r <;> simp_all
  · rw [c]; cases b1 <;> cases b3 <;> cases e4 <;> cases e5 <;> cases r <;> by_cases c6 : x.f2 = 0 <;> simp_all
  · rw [c]; cases b1 <;> cases b3 <;> cases e4 <;> cases e5 <;> cases r <;> by_cases c6 : x.f2 = 0 <;> simp_all
  · rw [c]; cases b1 <;> cases b3 <;> cases e4 <;> cases e5 <;> cases r <;> by_cases c6 : x.f2 = 0 <;> simp_all [beq_false_of_ne]
  · have hf : decide (0 ≤ x.f0) = false ∨ decide (x.f0 ≤ 5) = false := by
      rcases c with c | c
      · exact .inl (decide_eq_false (by omega))
      · exact .inr (decide_eq_false (by omega))
    rw [if_neg (by omega), if_neg (by omega), if_neg (by omega), if_neg (by omega), Bool.and_false]
    rcases hf with h | h <;> simp [h]
end Go.Proofs.YtbnoihpooeombaaDoor.X

namespace Go.Proofs.YtbnoihpooeombaaDoor.P
open Go.Proofs.YtbnoihpooeombaaDoor.X
open Go.RowKit Go.Proofs.YtbnoihpooeombaaDoorW.PrintWords Go.Proofs.YtbnoihpooeombaaDoorW.PrintLast Go.Proofs.YtbnoihpooeombaaDoorW.PrintMore
attribute [local go_sem] qAr qAu
set_option linter.unusedVariables false
set_option linter.unusedSimpArgs false
def strconv_FormatBool_93.f (a0 : Bool) : Option (ByteArray) := if a0 = true then (some (⟨#[116, 114, 117, 101]⟩ : ByteArray)) else (some (⟨#[102, 97, 108, 115, 101]⟩ : ByteArray))
set_option maxHeartbeats 8000000 in
set_option maxRecDepth 100000 in
theorem strconv_FormatBool_93.calls (a0 : Bool) (r : ByteArray) (w : World) (h : strconv_FormatBool_93.f a0 = some r) :
  Calls Tryd.prog 93 #[.bool a0] w fun e w' => e = .returned (.string r) ∧ Drawn0 w w' := by
 have H : (if a0 = true then (some (⟨#[116, 114, 117, 101]⟩ : ByteArray)) else (some (⟨#[102, 97, 108, 115, 101]⟩ : ByteArray))) = some r := h
 clear h
 by_cases c2 : a0 = true
 ·subst c2
  have H1 : (some (⟨#[116, 114, 117, 101]⟩ : ByteArray)) = some r := by rw [if_pos rfl] at H; exact H
  clear H
  have H := H1
  clear H1
  obtain rfl := Option.some.inj H
  go_enter Tryd.func93, Tryd.ntmps93
  go_wp2
  go_ret
  exact ⟨by first | rfl | (simp; done) | (simp [*]; done), by repeat (first | exact Drawn0.refl _ | apply Drawn0.step)⟩
 ·replace c2 := Bool.eq_false_iff.mpr c2
  subst c2
  have H1 : (some (⟨#[102, 97, 108, 115, 101]⟩ : ByteArray)) = some r := by rw [if_neg (show ¬ (false = true) by decide)] at H; exact H
  clear H
  have H := H1
  clear H1
  obtain rfl := Option.some.inj H
  go_enter Tryd.func93, Tryd.ntmps93
  go_wp2
  go_ret
  exact ⟨by first | rfl | (simp; done) | (simp [*]; done), by repeat (first | exact Drawn0.refl _ | apply Drawn0.step)⟩
end Go.Proofs.YtbnoihpooeombaaDoor.P

namespace Go.Proofs.YtbnoihpooeombaaDoor.P
open Go.Proofs.YtbnoihpooeombaaDoor.X
open Go.RowKit Go.Proofs.YtbnoihpooeombaaDoorW.PrintWords Go.Proofs.YtbnoihpooeombaaDoorW.PrintLast Go.Proofs.YtbnoihpooeombaaDoorW.PrintMore
attribute [local go_sem] qAr qAu
set_option linter.unusedVariables false
set_option linter.unusedSimpArgs false
def strconv_FormatBool_66.f (a0 : Bool) : Option (ByteArray) := (strconv_FormatBool_93.f a0).bind fun t135 => (some t135)
set_option maxHeartbeats 8000000 in
set_option maxRecDepth 100000 in
theorem strconv_FormatBool_66.calls (a0 : Bool) (r : ByteArray) (w : World) (h : strconv_FormatBool_66.f a0 = some r) :
  Calls Tryd.prog 66 #[.bool a0] w fun e w' => e = .returned (.string r) ∧ Drawn0 w w' := by
 have H : ((strconv_FormatBool_93.f a0).bind fun t135 => (some t135)) = some r := h
 clear h
 replace H := Option.bind_eq_some_iff.mp H
 obtain ⟨t135, A20, H⟩ := H
 replace H : (some t135) = some r := H
 have A2 := Aside0.mk A20
 clear A20
 obtain rfl := Option.some.inj H
 go_enter Tryd.func66, Tryd.ntmps66
 go_wp2_with (first | ((with_reducible refine qAp (f := 93) rfl ?_); refine goesL_ (some 4) rfl rfl Tryd.func93 (by kernel_rfl) rfl #[.bool a0] rfl (by (try simp only [List.map_toArray, List.map_cons, List.map_nil]); first | done | rfl | (simp only [List.length_drop, List.length_take]; rfl)) ?_; (with_reducible refine (strconv_FormatBool_93.calls a0 t135 _ A2.out).mono ?_); rintro e w' ⟨rfl, ⟨nd, rfl⟩⟩; refine ⟨_, rfl, ?_⟩))
 go_ret
 exact ⟨by first | rfl | (simp; done) | (simp [*]; done), by repeat (first | exact Drawn0.refl _ | apply Drawn0.step)⟩
end Go.Proofs.YtbnoihpooeombaaDoor.P

namespace Go.Proofs.YtbnoihpooeombaaDoor.X
open Go.RowKit Go.Proofs.YtbnoihpooeombaaDoorW.PrintWords
set_option linter.unusedVariables false
set_option linter.unusedSimpArgs false
theorem e16 : IntKind.u64.wrap (bits BinOp.and IntKind.u64 16 (IntKind.u64.wrap (-16)) * 285870213051353865) / 288230376151711744 = 15 := by decide +kernel
def strconv_FormatUint.f (a0 a1 : Int) : Option ByteArray := if 0 ≤ a0 ∧ a0 < 18446744073709551616 ∧ a1 = 16 then some ⟨(qFl 16 a0.toNat).toArray⟩ else none
def strings_Repeat.f (a0 : ByteArray) (a1 : Int) : Option ByteArray := if 0 ≤ a1 ∧ a1 ≤ 9223372036854775807 ∧ a0.size * a1.toNat ≤ 140737488355328 then some ⟨(Lib.repeatL a0.data.toList a1.toNat).toArray⟩ else none
end Go.Proofs.YtbnoihpooeombaaDoor.X

namespace Go.Proofs.YtbnoihpooeombaaDoor.X
open Go.RowKit Go.Proofs.YtbnoihpooeombaaDoorW.PrintWords
set_option linter.unusedVariables false
set_option linter.unusedSimpArgs false
theorem qF6 {w : World} {ad : Addr} {v : Value} (h : w.cell? ad = some v) : ad = ⟨ad.block, ad.off, none⟩ ∧ ad.block < w.heap.size := by
  unfold World.cell? at h
  split at h
  · rename_i c t f hc
    split at h
    · cases h
    · rename_i hs
      obtain ⟨b, o, s⟩ := ad
      cases s with
      | none => exact ⟨rfl, by
          rcases Nat.lt_or_ge b w.heap.size with h' | h'
          · exact h'
          · simp [Array.getElem?_eq_none h'] at hc⟩
      | some s => exact absurd rfl hs
  · cases h
def joinB (l : List ByteArray) (s : ByteArray) : ByteArray := ⟨(Lib.join (l.map (·.data.toList)) s.data.toList).toArray⟩
def strings_Join.f (l0 : List ByteArray) (a1 : ByteArray) : Option ByteArray := if (joinB l0 a1).size ≤ 140737488355328 ∧ l0.length ≤ 140737488355328 then some (joinB l0 a1) else none
theorem strings_Join.calls (A0 : Option Addr) (c0 : Nat) (l0 : List ByteArray) (a1 r : ByteArray) (w : World) (hr0 : Kd.C Kd.string w A0 l0.length l0) (hc0 : l0.length ≤ c0) (h : strings_Join.f l0 a1 = some r) :
    Calls Tryd.prog 68 #[.slice A0 l0.length c0, .string a1] w fun e w' => e = .returned (.string r) ∧ Below w.heap.size w w' := by
  unfold strings_Join.f at h
  split at h
  · rename_i hc
    cases h
    by_cases h0 : l0.length = 0
    · have h1 : l0 = [] := List.length_eq_zero_iff.1 h0
      subst h1
      exact (Tryd.strings_Join_none A0 c0 a1 w).mono fun e w' ⟨he, hw⟩ => ⟨he.trans rfl, hw ▸ Below.refl _ _⟩
    · obtain ⟨ad, rfl, h1⟩ := Kd.at_string hr0 0 (by omega) (by omega)
      have had : ad = ⟨ad.block, ad.off, none⟩ ∧ ad.block < w.heap.size := qF6 h1
      obtain ⟨hp, ip⟩ := had
      generalize ad.block = bk at *
      generalize ad.off = o at *
      subst hp
      exact Tryd.strings_Join bk o c0 l0 a1 w (fun j x hj => by
        have hlt : j < l0.length := by
          rcases Nat.lt_or_ge j l0.length with h | h
          · exact h
          · rw [List.getElem?_eq_none h] at hj; cases hj
        obtain ⟨ad2, e, h2⟩ := Kd.at_string hr0 (j : Int) (by omega) (by omega)
        cases e
        have e3 : rdOf ByteArray.empty l0 (j : Int) = x := by simp [rdOf, List.getD_eq_getElem?_getD, hj]
        rw [e3] at h2
        have e4 : (⟨bk, o, none⟩ : Addr).add (j : Int).toNat = ⟨bk, o + j, none⟩ := by
          unfold Addr.add
          by_cases c : j = 0
          · subst c; simp
          · rw [if_neg (by omega)]; simp
        rw [e4] at h2
        exact h2) ip hc.2 hc0 (by have := hc.1; simpa [joinB, ByteArray.size] using this)
  · cases h
def strconv_Itoa.f (a0 : Int) : Option ByteArray := if -9223372036854775808 ≤ a0 ∧ a0 ≤ 9223372036854775807 then some ⟨(Lib.itoa a0).toArray⟩ else none
theorem strconv_Itoa.calls (a0 : Int) (r : ByteArray) (w : World) (hT : Aside0 (Tabs w)) (h : strconv_Itoa.f a0 = some r) :
    Calls Tryd.prog 67 #[.int .i64 a0] w fun e w' => e = .returned (.string r) ∧ Below w.heap.size w w' := by
  unfold strconv_Itoa.f at h
  split at h
  · rename_i hc
    cases h
    exact (Tryd.strconv_Itoa a0 hc.1 hc.2 w hT.out.pow).mono fun e w' ⟨he, k, os, hw⟩ => ⟨he, by rw [hw]; exact Lib.below_grow _ w (Nat.le_refl _) k os⟩
  · cases h
end Go.Proofs.YtbnoihpooeombaaDoor.X

namespace Go.Proofs.YtbnoihpooeombaaDoor.P
open Go.Proofs.YtbnoihpooeombaaDoor.X
open Go.RowKit Go.Proofs.YtbnoihpooeombaaDoorW.PrintWords Go.Proofs.YtbnoihpooeombaaDoorW.PrintLast Go.Proofs.YtbnoihpooeombaaDoorW.PrintMore
attribute [local go_sem] qAr qAu
set_option linter.unusedVariables false
set_option linter.unusedSimpArgs false
mutual
def value_text.j0 : Nat → Bool → Int → Bool → Int → ByteArray → List (S25) → List ByteArray → Option (ByteArray)
 | 0, _, _, _, _, _, _, _ => none
 | k + 1, x25, x137000, x137001, x137002, x137003, x137004, x137005 => if x25 = true then (value_text.l0 k ([] : List ByteArray) x137004 (x137004.length : Int) 0 x137000 x137001 x137002 x137003 x137004 x137005) else (some (⟨#[110, 117, 108, 108]⟩ : ByteArray))
def value_text.l0 : Nat → List ByteArray → List (S25) → Int → Int → Int → Bool → Int → ByteArray → List (S25) → List ByteArray → Option (ByteArray)
 | 0, _, _, _, _, _, _, _, _, _, _ => none
 | k + 1, x3, x29, x30, x31, x137000, x137001, x137002, x137003, x137004, x137005 => if x31 < x30 then (if 0 ≤ x31 then (if x31 < (x29.length : Int) then ((value_text.f k ((rd_T25 x29 x31).f0) ((rd_T25 x29 x31).f1) ((rd_T25 x29 x31).f2) ((rd_T25 x29 x31).f3) ((rd_T25 x29 x31).f4) ((rd_T25 x29 x31).f5)).bind fun t143 => (if x137000 = 5 then (if x31 < (x137005.length : Int) then ((value_Quote.f k (rdOf ByteArray.empty x137005 x31)).bind fun t145 => (if t145.size + 1 ≤ 9223372036854775807 then (if (t145 ++ (⟨#[58]⟩ : ByteArray)).size + t143.size ≤ 9223372036854775807 then (if x3.length < 8796093022208 then (value_text.l0 k (x3 ++ [(t145 ++ (⟨#[58]⟩ : ByteArray)) ++ t143]) x29 x30 (wrap64 (x31 + 1)) x137000 x137001 x137002 x137003 x137004 x137005) else (none)) else (none)) else (none))) else (none)) else (if x3.length < 8796093022208 then (value_text.l0 k (x3 ++ [t143]) x29 x30 (wrap64 (x31 + 1)) x137000 x137001 x137002 x137003 x137004 x137005) else (none)))) else (none)) else (none)) else ((strings_Join.f x3 (⟨#[44]⟩ : ByteArray)).bind fun t140 => (if x137000 = 5 then (if 1 + t140.size ≤ 9223372036854775807 then (if ((⟨#[123]⟩ : ByteArray) ++ t140).size + 1 ≤ 9223372036854775807 then (some (((⟨#[123]⟩ : ByteArray) ++ t140) ++ (⟨#[125]⟩ : ByteArray))) else (none)) else (none)) else (if 1 + t140.size ≤ 9223372036854775807 then (if ((⟨#[91]⟩ : ByteArray) ++ t140).size + 1 ≤ 9223372036854775807 then (some (((⟨#[91]⟩ : ByteArray) ++ t140) ++ (⟨#[93]⟩ : ByteArray))) else (none)) else (none))))
def value_text.f : Nat → Int → Bool → Int → ByteArray → List (S25) → List ByteArray → Option (ByteArray)
 | 0, _, _, _, _, _, _ => none
 | k + 1, a0_0, a0_1, a0_2, a0_3, l0_4, l0_5 => if a0_0 = 1 then ((strconv_FormatBool_66.f a0_1).bind fun t137 => (some t137)) else (if a0_0 = 2 then ((strconv_Itoa.f a0_2).bind fun t138 => (some t138)) else (if a0_0 = 3 then ((value_Quote.f k a0_3).bind fun t139 => (some t139)) else (if a0_0 = 4 then (value_text.j0 k (a0_0 == 4) a0_0 a0_1 a0_2 a0_3 l0_4 l0_5) else (value_text.j0 k (a0_0 == 5) a0_0 a0_1 a0_2 a0_3 l0_4 l0_5))))
end
theorem value_text.mono_l : ∀ k, (∀ y0 y1 y2 y3 y4 y5, LeO (value_text.f k y0 y1 y2 y3 y4 y5) (value_text.f (k + 1) y0 y1 y2 y3 y4 y5)) ∧ (∀ y0 y1 y2 y3 y4 y5 y6, LeO (value_text.j0 k y0 y1 y2 y3 y4 y5 y6) (value_text.j0 (k + 1) y0 y1 y2 y3 y4 y5 y6)) ∧ (∀ y0 y1 y2 y3 y4 y5 y6 y7 y8 y9, LeO (value_text.l0 k y0 y1 y2 y3 y4 y5 y6 y7 y8 y9) (value_text.l0 (k + 1) y0 y1 y2 y3 y4 y5 y6 y7 y8 y9))
 | 0 => ⟨fun _ _ _ _ _ _ r h => by simp [value_text.f] at h, fun _ _ _ _ _ _ _ r h => by simp [value_text.j0] at h, fun _ _ _ _ _ _ _ _ _ _ r h => by simp [value_text.l0] at h⟩
 | k + 1 => by
  obtain ⟨ih0, ih1, ih2⟩ := value_text.mono_l k
  refine ⟨?_, ?_, ?_⟩
  ·intro y0 y1 y2 y3 y4 y5
   unfold value_text.f
   repeat' first
   | (with_reducible exact ih0 _ _ _ _ _ _)
   | (with_reducible exact ih1 _ _ _ _ _ _ _)
   | (with_reducible exact ih2 _ _ _ _ _ _ _ _ _ _)
   | (with_reducible exact value_Quote.mono _ _)
   | (with_reducible exact LeO.refl _)
   | (with_reducible exact LeO.none _)
   | (with_reducible refine LeO.ite ?_ ?_)
   | (with_reducible refine LeO.bind ?_ (fun _ => ?_))
   | exact ih0 _ _ _ _ _ _
   | exact ih1 _ _ _ _ _ _ _
   | exact ih2 _ _ _ _ _ _ _ _ _ _
   | exact value_Quote.mono _ _
   | exact LeO.none _
   | refine LeO.ite ?_ ?_
   | refine LeO.bind ?_ (fun _ => ?_)
  ·intro y0 y1 y2 y3 y4 y5 y6
   unfold value_text.j0
   repeat' first
   | (with_reducible exact ih0 _ _ _ _ _ _)
   | (with_reducible exact ih1 _ _ _ _ _ _ _)
   | (with_reducible exact ih2 _ _ _ _ _ _ _ _ _ _)
   | (with_reducible exact value_Quote.mono _ _)
   | (with_reducible exact LeO.refl _)
   | (with_reducible exact LeO.none _)
   | (with_reducible refine LeO.ite ?_ ?_)
   | (with_reducible refine LeO.bind ?_ (fun _ => ?_))
   | exact ih0 _ _ _ _ _ _
   | exact ih1 _ _ _ _ _ _ _
   | exact ih2 _ _ _ _ _ _ _ _ _ _
   | exact value_Quote.mono _ _
   | exact LeO.none _
   | refine LeO.ite ?_ ?_
   | refine LeO.bind ?_ (fun _ => ?_)
  ·intro y0 y1 y2 y3 y4 y5 y6 y7 y8 y9
   unfold value_text.l0
   repeat' first
   | (with_reducible exact ih0 _ _ _ _ _ _)
   | (with_reducible exact ih1 _ _ _ _ _ _ _)
   | (with_reducible exact ih2 _ _ _ _ _ _ _ _ _ _)
   | (with_reducible exact value_Quote.mono _ _)
   | (with_reducible exact LeO.refl _)
   | (with_reducible exact LeO.none _)
   | (with_reducible refine LeO.ite ?_ ?_)
   | (with_reducible refine LeO.bind ?_ (fun _ => ?_))
   | exact ih0 _ _ _ _ _ _
   | exact ih1 _ _ _ _ _ _ _
   | exact ih2 _ _ _ _ _ _ _ _ _ _
   | exact value_Quote.mono _ _
   | exact LeO.none _
   | refine LeO.ite ?_ ?_
   | refine LeO.bind ?_ (fun _ => ?_)
theorem value_text.mono : ∀ a0 a1 a2 a3 a4 a5 k, LeO (value_text.f k a0 a1 a2 a3 a4 a5) (value_text.f (k + 1) a0 a1 a2 a3 a4 a5) := by
 intro a0 a1 a2 a3 a4 a5 k
 obtain ⟨ih0, ih1, ih2⟩ := value_text.mono_l k
 exact ih0 a0 a1 a2 a3 a4 a5
set_option maxHeartbeats 8000000 in
set_option maxRecDepth 100000 in
theorem value_text.calls (k : Nat) : ∀ (a0_0 : Int) (a0_1 : Bool) (a0_2 : Int) (a0_3 : ByteArray) (A0_4 : Option Addr) (c0_4 : Nat) (l0_4 : List (S25)) (A0_5 : Option Addr) (c0_5 : Nat) (l0_5 : List ByteArray) (r : ByteArray) (w : World) (hT : Aside0 (Tabs w)) (hr0_4 : Kd.C k25 w A0_4 l0_4.length l0_4) (hc0_4 : l0_4.length ≤ c0_4) (hr0_5 : Kd.C Kd.string w A0_5 l0_5.length l0_5) (hc0_5 : l0_5.length ≤ c0_5) (h : value_text.f k a0_0 a0_1 a0_2 a0_3 l0_4 l0_5 = some r),
  Calls Tryd.prog 47 #[.agg #[.int .i64 a0_0, .bool a0_1, .int .i64 a0_2, .string a0_3, .slice A0_4 l0_4.length c0_4, .slice A0_5 l0_5.length c0_5]] w fun e w' => e = .returned (.string r) ∧ Below w.heap.size w w' := by
 induction k using Nat.strongRecOn with
 | _ k ih =>
 intro a0_0 a0_1 a0_2 a0_3 A0_4 c0_4 l0_4 A0_5 c0_5 l0_5 r w hT hr0_4 hc0_4 hr0_5 hc0_5 h
 cases k with
 | zero => exact absurd h (by simp [value_text.f])
 | succ k =>
 simp only [value_text.f] at h
 have hu25 := Tryd.underlying25
 have HR0_4 := Aside0.mk hr0_4
 have HC0_4 := Aside0.mk hc0_4
 clear hr0_4 hc0_4
 have HR0_5 := Aside0.mk hr0_5
 have HC0_5 := Aside0.mk hc0_5
 clear hr0_5 hc0_5
 have HB := Aside0.mk (Below.refl w.heap.size w)
 have H : (if a0_0 = 1 then ((strconv_FormatBool_66.f a0_1).bind fun t137 => (some t137)) else (if a0_0 = 2 then ((strconv_Itoa.f a0_2).bind fun t138 => (some t138)) else (if a0_0 = 3 then ((value_Quote.f k a0_3).bind fun t139 => (some t139)) else (if a0_0 = 4 then (value_text.j0 k (a0_0 == 4) a0_0 a0_1 a0_2 a0_3 l0_4 l0_5) else (value_text.j0 k (a0_0 == 5) a0_0 a0_1 a0_2 a0_3 l0_4 l0_5))))) = some r := h
 clear h
 by_cases c2 : a0_0 = 1
 ·rw [if_pos c2] at H
  have c2b0 : (a0_0 == 1) = true := beq_iff_eq.mpr c2
  have c2b1 : (a0_0 != 1) = false := bne_eq_false_iff_eq.mpr c2
  clear c2
  replace H := Option.bind_eq_some_iff.mp H
  obtain ⟨t137, A30, H⟩ := H
  replace H : (some t137) = some r := H
  have A3 := Aside0.mk A30
  clear A30
  obtain rfl := Option.some.inj H
  go_enter Tryd.func47, Tryd.ntmps47
  go_wp2_with (first | ((with_reducible refine qAy (N := 1) rfl ?_); refine qA1 ?hg (N := 1) ?hd (cs := #[.int .i64 a0_0, .bool a0_1, .int .i64 a0_2, .string a0_3, .slice A0_4 l0_4.length c0_4, .slice A0_5 l0_5.length c0_5]) (t := 25) ?hr ?_; (case hd => rfl); (case hg => rfl); (case hr => first | (go_simp; done) | (go_simp; rfl)); intro gb136 hg w4 hbox hb; have n0_ := Aside0.mk (qAi (by repeat (first | (with_reducible first | exact HB.out | apply qAd | apply qAc | apply qAe) | exact HB.out)) hb); have n1_ := Aside0.mk (hbox); have n2_ := Aside0.mk ((by rw [hg]; exact (qAn (by repeat (first | (with_reducible first | exact HB.out | apply qAd | apply qAc | apply qAe) | exact HB.out))) : w.heap.size ≤ gb136)); have n3_ := Aside0.mk ((by rw [hg]; exact (qAn (by repeat (first | (with_reducible first | exact HB.out | apply qAd | apply qAc | apply qAe) | exact HB.out))) : w.heap.size ≤ gb136)); clear HB; have HB := n0_; have BK136 := n1_; have GW136 := n2_; have GE136 := n3_; clear n0_ n1_ n2_ n3_; clear hb hbox hg; have hcz5_0 : w4.cell? ⟨gb136, 0, none⟩ = some (.int .i64 a0_0) := (qAb BK136.out 0).trans rfl; have hcz5_1 : w4.cell? ⟨gb136, 1, none⟩ = some (.bool a0_1) := (qAb BK136.out 1).trans rfl; have hcz5_2 : w4.cell? ⟨gb136, 2, none⟩ = some (.int .i64 a0_2) := (qAb BK136.out 2).trans rfl; have hcz5_3 : w4.cell? ⟨gb136, 3, none⟩ = some (.string a0_3) := (qAb BK136.out 3).trans rfl; have hcz5_4 : w4.cell? ⟨gb136, 4, none⟩ = some (.slice A0_4 l0_4.length c0_4) := (qAb BK136.out 4).trans rfl; have hcz5_5 : w4.cell? ⟨gb136, 5, none⟩ = some (.slice A0_5 l0_5.length c0_5) := (qAb BK136.out 5).trans rfl; have hfz5_0 := qAa BK136.out 0; have hfz5_1 := qAa BK136.out 1; have hfz5_2 := qAa BK136.out 2; have hfz5_3 := qAa BK136.out 3; have hfz5_4 := qAa BK136.out 4; have hfz5_5 := qAa BK136.out 5) | ((with_reducible refine qAp (f := 66) rfl ?_); refine goesL_ (some 14) rfl rfl Tryd.func66 (by kernel_rfl) rfl #[.bool a0_1] rfl (by (try simp only [List.map_toArray, List.map_cons, List.map_nil]); first | done | rfl | (simp only [List.length_drop, List.length_take]; rfl)) ?_; (with_reducible refine (strconv_FormatBool_66.calls a0_1 t137 _ A3.out).mono ?_); rintro e w' ⟨rfl, ⟨nd, rfl⟩⟩; refine ⟨_, rfl, ?_⟩))
  go_ret
  exact ⟨by first | rfl | (simp [qAl, qAk] <;> rfl) | (simp [*, qAl, qAk] <;> rfl), by repeat (first | (with_reducible first | exact HB.out | apply qAd | apply qAc | apply qAe | refine qAf ?_ GE136.out) | exact HB.out)⟩
 ·rw [if_neg c2] at H
  have c2b0 : (a0_0 == 1) = false := beq_eq_false_iff_ne.mpr c2
  have c2b1 : (a0_0 != 1) = true := bne_iff_ne.mpr c2
  by_cases c6 : a0_0 = 2
  ·rw [if_pos c6] at H
   have c6b0 : (a0_0 == 2) = true := beq_iff_eq.mpr c6
   have c6b1 : (a0_0 != 2) = false := bne_eq_false_iff_eq.mpr c6
   clear c6
   replace H := Option.bind_eq_some_iff.mp H
   obtain ⟨t138, A70, H⟩ := H
   replace H : (some t138) = some r := H
   have A7 := Aside0.mk A70
   clear A70
   obtain rfl := Option.some.inj H
   go_enter Tryd.func47, Tryd.ntmps47
   go_wp2_with (first | ((with_reducible refine qAy (N := 1) rfl ?_); refine qA1 ?hg (N := 1) ?hd (cs := #[.int .i64 a0_0, .bool a0_1, .int .i64 a0_2, .string a0_3, .slice A0_4 l0_4.length c0_4, .slice A0_5 l0_5.length c0_5]) (t := 25) ?hr ?_; (case hd => rfl); (case hg => rfl); (case hr => first | (go_simp; done) | (go_simp; rfl)); intro gb136 hg w8 hbox hb; have n0_ := Aside0.mk (qAi (by repeat (first | (with_reducible first | exact HB.out | apply qAd | apply qAc | apply qAe) | exact HB.out)) hb); have n1_ := Aside0.mk (hbox); have n2_ := Aside0.mk ((by rw [hg]; exact (qAn (by repeat (first | (with_reducible first | exact HB.out | apply qAd | apply qAc | apply qAe) | exact HB.out))) : w.heap.size ≤ gb136)); have n3_ := Aside0.mk ((by rw [hg]; exact (qAn (by repeat (first | (with_reducible first | exact HB.out | apply qAd | apply qAc | apply qAe) | exact HB.out))) : w.heap.size ≤ gb136)); clear HB; have HB := n0_; have BK136 := n1_; have GW136 := n2_; have GE136 := n3_; clear n0_ n1_ n2_ n3_; clear hb hbox hg; have hcz9_0 : w8.cell? ⟨gb136, 0, none⟩ = some (.int .i64 a0_0) := (qAb BK136.out 0).trans rfl; have hcz9_1 : w8.cell? ⟨gb136, 1, none⟩ = some (.bool a0_1) := (qAb BK136.out 1).trans rfl; have hcz9_2 : w8.cell? ⟨gb136, 2, none⟩ = some (.int .i64 a0_2) := (qAb BK136.out 2).trans rfl; have hcz9_3 : w8.cell? ⟨gb136, 3, none⟩ = some (.string a0_3) := (qAb BK136.out 3).trans rfl; have hcz9_4 : w8.cell? ⟨gb136, 4, none⟩ = some (.slice A0_4 l0_4.length c0_4) := (qAb BK136.out 4).trans rfl; have hcz9_5 : w8.cell? ⟨gb136, 5, none⟩ = some (.slice A0_5 l0_5.length c0_5) := (qAb BK136.out 5).trans rfl; have hfz9_0 := qAa BK136.out 0; have hfz9_1 := qAa BK136.out 1; have hfz9_2 := qAa BK136.out 2; have hfz9_3 := qAa BK136.out 3; have hfz9_4 := qAa BK136.out 4; have hfz9_5 := qAa BK136.out 5) | ((with_reducible refine qAp (f := 67) rfl ?_); refine goesL_ (some 19) rfl rfl Tryd.func67 (by kernel_rfl) rfl #[.int .i64 a0_2] rfl (by (try simp only [List.map_toArray, List.map_cons, List.map_nil]); first | done | rfl | (simp only [List.length_drop, List.length_take]; rfl)) ?_; (with_reducible refine (strconv_Itoa.calls a0_2 t138 _ ?side1 A7.out).mono ?_); (case side1 => exact ⟨Tabs.below hT.out (by repeat (first | (with_reducible first | exact HB.out | apply qAd | apply qAc | apply qAe | refine qAf ?_ GE136.out) | exact HB.out))⟩); rintro e w10 ⟨rfl, hb⟩; refine ⟨_, rfl, ?_⟩; have n0_ := Aside0.mk (qAj (g := gb136) (o := .cells #[.int .i64 a0_0, .bool a0_1, .int .i64 a0_2, .string a0_3, .slice A0_4 l0_4.length c0_4, .slice A0_5 l0_5.length c0_5] 25 (0, 0)) (by (with_reducible repeat (first | refine qAg ?_ _ | refine qAh ?_ | refine blk_alloc ?_ _)); exact BK136.out) hb); have n1_ := Aside0.mk (qAi (by repeat (first | (with_reducible first | exact HB.out | apply qAd | apply qAc | apply qAe | refine qAf ?_ GE136.out) | exact HB.out)) hb); clear BK136; clear HB; have BK136 := n0_; have HB := n1_; clear n0_ n1_; (try clear hb); (try clear hb2); (try clear hk); (try clear hi)))
   go_ret
   exact ⟨by first | rfl | (simp [qAl, qAk] <;> rfl) | (simp [*, qAl, qAk] <;> rfl), by repeat (first | (with_reducible first | exact HB.out | apply qAd | apply qAc | apply qAe | refine qAf ?_ GE136.out) | exact HB.out)⟩
  ·rw [if_neg c6] at H
   have c6b0 : (a0_0 == 2) = false := beq_eq_false_iff_ne.mpr c6
   have c6b1 : (a0_0 != 2) = true := bne_iff_ne.mpr c6
   by_cases c11 : a0_0 = 3
   ·rw [if_pos c11] at H
    have c11b0 : (a0_0 == 3) = true := beq_iff_eq.mpr c11
    have c11b1 : (a0_0 != 3) = false := bne_eq_false_iff_eq.mpr c11
    clear c11
    replace H := Option.bind_eq_some_iff.mp H
    obtain ⟨t139, A120, H⟩ := H
    replace H : (some t139) = some r := H
    have A12 := Aside0.mk A120
    clear A120
    obtain rfl := Option.some.inj H
    go_enter Tryd.func47, Tryd.ntmps47
    go_wp2_with (first | ((with_reducible refine qAy (N := 1) rfl ?_); refine qA1 ?hg (N := 1) ?hd (cs := #[.int .i64 a0_0, .bool a0_1, .int .i64 a0_2, .string a0_3, .slice A0_4 l0_4.length c0_4, .slice A0_5 l0_5.length c0_5]) (t := 25) ?hr ?_; (case hd => rfl); (case hg => rfl); (case hr => first | (go_simp; done) | (go_simp; rfl)); intro gb136 hg w13 hbox hb; have n0_ := Aside0.mk (qAi (by repeat (first | (with_reducible first | exact HB.out | apply qAd | apply qAc | apply qAe) | exact HB.out)) hb); have n1_ := Aside0.mk (hbox); have n2_ := Aside0.mk ((by rw [hg]; exact (qAn (by repeat (first | (with_reducible first | exact HB.out | apply qAd | apply qAc | apply qAe) | exact HB.out))) : w.heap.size ≤ gb136)); have n3_ := Aside0.mk ((by rw [hg]; exact (qAn (by repeat (first | (with_reducible first | exact HB.out | apply qAd | apply qAc | apply qAe) | exact HB.out))) : w.heap.size ≤ gb136)); clear HB; have HB := n0_; have BK136 := n1_; have GW136 := n2_; have GE136 := n3_; clear n0_ n1_ n2_ n3_; clear hb hbox hg; have hcz14_0 : w13.cell? ⟨gb136, 0, none⟩ = some (.int .i64 a0_0) := (qAb BK136.out 0).trans rfl; have hcz14_1 : w13.cell? ⟨gb136, 1, none⟩ = some (.bool a0_1) := (qAb BK136.out 1).trans rfl; have hcz14_2 : w13.cell? ⟨gb136, 2, none⟩ = some (.int .i64 a0_2) := (qAb BK136.out 2).trans rfl; have hcz14_3 : w13.cell? ⟨gb136, 3, none⟩ = some (.string a0_3) := (qAb BK136.out 3).trans rfl; have hcz14_4 : w13.cell? ⟨gb136, 4, none⟩ = some (.slice A0_4 l0_4.length c0_4) := (qAb BK136.out 4).trans rfl; have hcz14_5 : w13.cell? ⟨gb136, 5, none⟩ = some (.slice A0_5 l0_5.length c0_5) := (qAb BK136.out 5).trans rfl; have hfz14_0 := qAa BK136.out 0; have hfz14_1 := qAa BK136.out 1; have hfz14_2 := qAa BK136.out 2; have hfz14_3 := qAa BK136.out 3; have hfz14_4 := qAa BK136.out 4; have hfz14_5 := qAa BK136.out 5) | ((with_reducible refine qAp (f := 26) rfl ?_); refine goesL_ (some 24) rfl rfl Tryd.func26 (by kernel_rfl) rfl #[.string a0_3] rfl (by (try simp only [List.map_toArray, List.map_cons, List.map_nil]); first | done | rfl | (simp only [List.length_drop, List.length_take]; rfl)) ?_; (with_reducible refine (value_Quote.calls k a0_3 t139 _ A12.out).mono ?_); rintro e w15 ⟨rfl, hb⟩; refine ⟨_, rfl, ?_⟩; have n0_ := Aside0.mk (qAj (g := gb136) (o := .cells #[.int .i64 a0_0, .bool a0_1, .int .i64 a0_2, .string a0_3, .slice A0_4 l0_4.length c0_4, .slice A0_5 l0_5.length c0_5] 25 (0, 0)) (by (with_reducible repeat (first | refine qAg ?_ _ | refine qAh ?_ | refine blk_alloc ?_ _)); exact BK136.out) hb); have n1_ := Aside0.mk (qAi (by repeat (first | (with_reducible first | exact HB.out | apply qAd | apply qAc | apply qAe | refine qAf ?_ GE136.out) | exact HB.out)) hb); clear BK136; clear HB; have BK136 := n0_; have HB := n1_; clear n0_ n1_; (try clear hb); (try clear hb2); (try clear hk); (try clear hi)))
    go_ret
    exact ⟨by first | rfl | (simp [qAl, qAk] <;> rfl) | (simp [*, qAl, qAk] <;> rfl), by repeat (first | (with_reducible first | exact HB.out | apply qAd | apply qAc | apply qAe | refine qAf ?_ GE136.out) | exact HB.out)⟩
   ·rw [if_neg c11] at H
    have c11b0 : (a0_0 == 3) = false := beq_eq_false_iff_ne.mpr c11
    have c11b1 : (a0_0 != 3) = true := bne_iff_ne.mpr c11
    have HC16 := Aside0.mk H
    clear H
    go_enter Tryd.func47, Tryd.ntmps47
    go_upto_if 25 with (first | ((with_reducible refine qAy (N := 1) rfl ?_); refine qA1 ?hg (N := 1) ?hd (cs := #[.int .i64 a0_0, .bool a0_1, .int .i64 a0_2, .string a0_3, .slice A0_4 l0_4.length c0_4, .slice A0_5 l0_5.length c0_5]) (t := 25) ?hr ?_; (case hd => rfl); (case hg => rfl); (case hr => first | (go_simp; done) | (go_simp; rfl)); intro gb136 hg w17 hbox hb; have n0_ := Aside0.mk (qAi (by repeat (first | (with_reducible first | exact HB.out | apply qAd | apply qAc | apply qAe) | exact HB.out)) hb); have n1_ := Aside0.mk (hbox); have n2_ := Aside0.mk ((by rw [hg]; exact (qAn (by repeat (first | (with_reducible first | exact HB.out | apply qAd | apply qAc | apply qAe) | exact HB.out))) : w.heap.size ≤ gb136)); have n3_ := Aside0.mk ((by rw [hg]; exact (qAn (by repeat (first | (with_reducible first | exact HB.out | apply qAd | apply qAc | apply qAe) | exact HB.out))) : w.heap.size ≤ gb136)); clear HB; have HB := n0_; have BK136 := n1_; have GW136 := n2_; have GE136 := n3_; clear n0_ n1_ n2_ n3_; clear hb hbox hg; have hcz18_0 : w17.cell? ⟨gb136, 0, none⟩ = some (.int .i64 a0_0) := (qAb BK136.out 0).trans rfl; have hcz18_1 : w17.cell? ⟨gb136, 1, none⟩ = some (.bool a0_1) := (qAb BK136.out 1).trans rfl; have hcz18_2 : w17.cell? ⟨gb136, 2, none⟩ = some (.int .i64 a0_2) := (qAb BK136.out 2).trans rfl; have hcz18_3 : w17.cell? ⟨gb136, 3, none⟩ = some (.string a0_3) := (qAb BK136.out 3).trans rfl; have hcz18_4 : w17.cell? ⟨gb136, 4, none⟩ = some (.slice A0_4 l0_4.length c0_4) := (qAb BK136.out 4).trans rfl; have hcz18_5 : w17.cell? ⟨gb136, 5, none⟩ = some (.slice A0_5 l0_5.length c0_5) := (qAb BK136.out 5).trans rfl; have hfz18_0 := qAa BK136.out 0; have hfz18_1 := qAa BK136.out 1; have hfz18_2 := qAa BK136.out 2; have hfz18_3 := qAa BK136.out 3; have hfz18_4 := qAa BK136.out 4; have hfz18_5 := qAa BK136.out 5))
    (try simp only [Act.put, List.setIfInBounds_toArray, List.set_cons_zero, List.set_cons_succ])
    go_cut [25] (fun v25 wc => ∃ (kq : Nat) (x25_15 : Bool), v25 = .bool x25_15 ∧ Aside0 (value_text.j0 kq x25_15 a0_0 a0_1 a0_2 a0_3 l0_4 l0_5 = some r) ∧ Aside0 (kq ≤ k) ∧ Aside0 (wc.heap[gb136]? = some (.cells #[.int .i64 a0_0, .bool a0_1, .int .i64 a0_2, .string a0_3, (.slice A0_4 l0_4.length c0_4), (.slice A0_5 l0_5.length c0_5)] 25 (0, 0))) ∧ Aside0 (Below w.heap.size w wc))
    case first =>
     have H := HC16.out
     clear HC16
     by_cases c19 : a0_0 = 4
     ·rw [if_pos c19] at H
      have c19b0 : (a0_0 == 4) = true := beq_iff_eq.mpr c19
      have c19b1 : (a0_0 != 4) = false := bne_eq_false_iff_eq.mpr c19
      clear c19
      (first | rw [c19b0] | (simp only [i64_w, i32_w]; rw [c19b0]) | skip)
      have H' := Aside0.mk H
      clear H
      go_wp2
      go_meet
      case rel => exact ⟨_, ((a0_0 == 4)), (by first | rfl | (simp; done) | (simp [*]; done) | exact congrArg Value.bool (nil_ne _) | exact congrArg Value.bool (nil_eq _) | exact congrArg Value.bool (nil_ne' _)), H', ⟨by first | omega | exact Nat.le_refl _⟩, ⟨by (with_reducible repeat (first | refine qAg ?_ _ | refine qAh ?_ | refine blk_alloc ?_ _)); exact BK136.out⟩, ⟨by repeat (first | (with_reducible first | exact HB.out | apply qAd | apply qAc | apply qAe | refine qAf ?_ GE136.out) | exact HB.out)⟩⟩
     ·rw [if_neg c19] at H
      have c19b0 : (a0_0 == 4) = false := beq_eq_false_iff_ne.mpr c19
      have c19b1 : (a0_0 != 4) = true := bne_iff_ne.mpr c19
      (first | rw [c19b0] | (simp only [i64_w, i32_w]; rw [c19b0]) | skip)
      have H' := Aside0.mk H
      clear H
      go_wp2
      go_meet
      case rel => exact ⟨_, ((a0_0 == 5)), (by first | rfl | (simp; done) | (simp [*]; done) | exact congrArg Value.bool (nil_ne _) | exact congrArg Value.bool (nil_eq _) | exact congrArg Value.bool (nil_ne' _)), H', ⟨by first | omega | exact Nat.le_refl _⟩, ⟨by (with_reducible repeat (first | refine qAg ?_ _ | refine qAh ?_ | refine blk_alloc ?_ _)); exact BK136.out⟩, ⟨by repeat (first | (with_reducible first | exact HB.out | apply qAd | apply qAc | apply qAe | refine qAf ?_ GE136.out) | exact HB.out)⟩⟩
    case rest =>
     clear HC16
     try clear c1
     try clear c2
     try clear c2b0
     try clear c2b1
     try clear p2
     try clear c4
     try clear c6
     try clear c6b0
     try clear c6b1
     try clear c11
     try clear c11b0
     try clear c11b1
     try clear c19
     try clear c19b0
     try clear c19b1
     try clear hcz14_0
     try clear hcz14_1
     try clear hcz14_2
     try clear hcz14_3
     try clear hcz14_4
     try clear hcz14_5
     try clear hcz18_0
     try clear hcz18_1
     try clear hcz18_2
     try clear hcz18_3
     try clear hcz18_4
     try clear hcz18_5
     try clear hcz5_0
     try clear hcz5_1
     try clear hcz5_2
     try clear hcz5_3
     try clear hcz5_4
     try clear hcz5_5
     try clear hcz9_0
     try clear hcz9_1
     try clear hcz9_2
     try clear hcz9_3
     try clear hcz9_4
     try clear hcz9_5
     try clear hfz14_0
     try clear hfz14_1
     try clear hfz14_2
     try clear hfz14_3
     try clear hfz14_4
     try clear hfz14_5
     try clear hfz18_0
     try clear hfz18_1
     try clear hfz18_2
     try clear hfz18_3
     try clear hfz18_4
     try clear hfz18_5
     try clear hfz5_0
     try clear hfz5_1
     try clear hfz5_2
     try clear hfz5_3
     try clear hfz5_4
     try clear hfz5_5
     try clear hfz9_0
     try clear hfz9_1
     try clear hfz9_2
     try clear hfz9_3
     try clear hfz9_4
     try clear hfz9_5
     obtain ⟨kq, x25_15, rfl, HA, HJ15, BK136, HB⟩ := hcut
     cases kq with
     | zero => exact absurd HA.out (by simp [value_text.j0])
     | succ kj15 =>
      have H := HA.out
      clear HA
      simp only [value_text.j0] at H
      by_cases c20 : x25_15 = true
      ·subst c20
       have H1 : (value_text.l0 kj15 ([] : List ByteArray) l0_4 (l0_4.length : Int) 0 a0_0 a0_1 a0_2 a0_3 l0_4 l0_5) = some r := by rw [if_pos rfl] at H; exact H
       clear H
       have H := H1
       clear H1
       have H' := Aside0.mk H
       clear H
       have hcz21_0 : wc.cell? ⟨gb136, 0, none⟩ = some (.int .i64 a0_0) := (qAb BK136.out 0).trans rfl
       have hcz21_1 : wc.cell? ⟨gb136, 1, none⟩ = some (.bool a0_1) := (qAb BK136.out 1).trans rfl
       have hcz21_2 : wc.cell? ⟨gb136, 2, none⟩ = some (.int .i64 a0_2) := (qAb BK136.out 2).trans rfl
       have hcz21_3 : wc.cell? ⟨gb136, 3, none⟩ = some (.string a0_3) := (qAb BK136.out 3).trans rfl
       have hcz21_4 : wc.cell? ⟨gb136, 4, none⟩ = some (.slice A0_4 l0_4.length c0_4) := (qAb BK136.out 4).trans rfl
       have hcz21_5 : wc.cell? ⟨gb136, 5, none⟩ = some (.slice A0_5 l0_5.length c0_5) := (qAb BK136.out 5).trans rfl
       have hfz21_0 := qAa BK136.out 0
       have hfz21_1 := qAa BK136.out 1
       have hfz21_2 := qAa BK136.out 2
       have hfz21_3 := qAa BK136.out 3
       have hfz21_4 := qAa BK136.out 4
       have hfz21_5 := qAa BK136.out 5
       go_wp2
       go_loopg [3, 31] kj15 (fun kq v3 v31 w' => ∃ (x3_2 : List ByteArray) (x31_2 : Int), v31 = .int .i64 x31_2 ∧ Aside0 (value_text.l0 kq x3_2 l0_4 (l0_4.length : Int) x31_2 a0_0 a0_1 a0_2 a0_3 l0_4 l0_5 = some r) ∧ Aside0 (kq ≤ kj15) ∧ Aside0 (Kd.R Kd.string 9 w' w.heap.size (fun _ => True) v3 x3_2) ∧ Aside0 (w'.heap[gb136]? = some (.cells #[.int .i64 a0_0, .bool a0_1, .int .i64 a0_2, .string a0_3, (.slice A0_4 l0_4.length c0_4), (.slice A0_5 l0_5.length c0_5)] 25 (0, 0))) ∧ Aside0 (Below w.heap.size w w'))
       case atStart => exact ⟨(([] : List ByteArray)), (0), (by first | rfl | (simp; done) | (simp [*]; done) | exact congrArg Value.bool (nil_ne _) | exact congrArg Value.bool (nil_eq _) | exact congrArg Value.bool (nil_ne' _)), H', ⟨Nat.le_refl _⟩, ⟨by first | exact Kd.R_nil _ _ _ _ _ | exact Kd.N_nil _ _ _ _ _ | exact Kd.V_nil _ _ _ _ _ | exact Kd.Q_nil _ _ _ _ _ | exact Kd.S_nil _ _ _ _ _⟩, ⟨by (with_reducible repeat (first | refine qAg ?_ _ | refine qAh ?_ | refine blk_alloc ?_ _)); exact BK136.out⟩, ⟨by repeat (first | (with_reducible first | exact HB.out | apply qAd | apply qAc | apply qAe | refine qAf ?_ GE136.out) | exact HB.out)⟩⟩
       case round =>
        clear H'
        try clear c1
        try clear c2
        try clear c2b0
        try clear c2b1
        try clear p2
        try clear c4
        try clear c6
        try clear c6b0
        try clear c6b1
        try clear c11
        try clear c11b0
        try clear c11b1
        try clear c19
        try clear c19b0
        try clear c19b1
        try clear c20
        try clear hcz14_0
        try clear hcz14_1
        try clear hcz14_2
        try clear hcz14_3
        try clear hcz14_4
        try clear hcz14_5
        try clear hcz18_0
        try clear hcz18_1
        try clear hcz18_2
        try clear hcz18_3
        try clear hcz18_4
        try clear hcz18_5
        try clear hcz21_0
        try clear hcz21_1
        try clear hcz21_2
        try clear hcz21_3
        try clear hcz21_4
        try clear hcz21_5
        try clear hcz5_0
        try clear hcz5_1
        try clear hcz5_2
        try clear hcz5_3
        try clear hcz5_4
        try clear hcz5_5
        try clear hcz9_0
        try clear hcz9_1
        try clear hcz9_2
        try clear hcz9_3
        try clear hcz9_4
        try clear hcz9_5
        try clear hfz14_0
        try clear hfz14_1
        try clear hfz14_2
        try clear hfz14_3
        try clear hfz14_4
        try clear hfz14_5
        try clear hfz18_0
        try clear hfz18_1
        try clear hfz18_2
        try clear hfz18_3
        try clear hfz18_4
        try clear hfz18_5
        try clear hfz21_0
        try clear hfz21_1
        try clear hfz21_2
        try clear hfz21_3
        try clear hfz21_4
        try clear hfz21_5
        try clear hfz5_0
        try clear hfz5_1
        try clear hfz5_2
        try clear hfz5_3
        try clear hfz5_4
        try clear hfz5_5
        try clear hfz9_0
        try clear hfz9_1
        try clear hfz9_2
        try clear hfz9_3
        try clear hfz9_4
        try clear hfz9_5
        try clear p2
        obtain ⟨x3_2, x31_2, rfl, HA, HK2, HO_3, BK136, HB⟩ := hrel
        cases gk with
        | zero => exact absurd HA.out (by simp [value_text.l0])
        | succ k2 =>
         have H := HA.out
         clear HA
         simp only [value_text.l0] at H
         by_cases c22 : x31_2 < (l0_4.length : Int)
         ·rw [if_pos c22] at H
          have c22b0 : decide (x31_2 < (l0_4.length : Int)) = true := decide_eq_true c22
          clear c22
          by_cases c23 : 0 ≤ x31_2
          ·rw [if_pos c23] at H
           have c23b0 : decide (0 ≤ x31_2) = true := decide_eq_true c23
           clear c23
           by_cases c24 : x31_2 < (l0_4.length : Int)
           ·rw [if_pos c24] at H
            have c24b0 : decide (x31_2 < (l0_4.length : Int)) = true := decide_eq_true c24
            clear c24
            replace H := Option.bind_eq_some_iff.mp H
            obtain ⟨t143, A250, H⟩ := H
            replace H : (if a0_0 = 5 then (if x31_2 < (l0_5.length : Int) then ((value_Quote.f k2 (rdOf ByteArray.empty l0_5 x31_2)).bind fun t145 => (if t145.size + 1 ≤ 9223372036854775807 then (if (t145 ++ (⟨#[58]⟩ : ByteArray)).size + t143.size ≤ 9223372036854775807 then (if x3_2.length < 8796093022208 then (value_text.l0 k2 (x3_2 ++ [(t145 ++ (⟨#[58]⟩ : ByteArray)) ++ t143]) l0_4 (l0_4.length : Int) (wrap64 (x31_2 + 1)) a0_0 a0_1 a0_2 a0_3 l0_4 l0_5) else (none)) else (none)) else (none))) else (none)) else (if x3_2.length < 8796093022208 then (value_text.l0 k2 (x3_2 ++ [t143]) l0_4 (l0_4.length : Int) (wrap64 (x31_2 + 1)) a0_0 a0_1 a0_2 a0_3 l0_4 l0_5) else (none))) = some r := H
            have A25 := Aside0.mk A250
            clear A250
            by_cases c26 : a0_0 = 5
            ·rw [if_pos c26] at H
             have c26b0 : (a0_0 == 5) = true := beq_iff_eq.mpr c26
             have c26b1 : (a0_0 != 5) = false := bne_eq_false_iff_eq.mpr c26
             clear c26
             by_cases c27 : x31_2 < (l0_5.length : Int)
             ·rw [if_pos c27] at H
              have c27b0 : decide (x31_2 < (l0_5.length : Int)) = true := decide_eq_true c27
              clear c27
              replace H := Option.bind_eq_some_iff.mp H
              obtain ⟨t145, A280, H⟩ := H
              replace H : (if t145.size + 1 ≤ 9223372036854775807 then (if (t145 ++ (⟨#[58]⟩ : ByteArray)).size + t143.size ≤ 9223372036854775807 then (if x3_2.length < 8796093022208 then (value_text.l0 k2 (x3_2 ++ [(t145 ++ (⟨#[58]⟩ : ByteArray)) ++ t143]) l0_4 (l0_4.length : Int) (wrap64 (x31_2 + 1)) a0_0 a0_1 a0_2 a0_3 l0_4 l0_5) else (none)) else (none)) else (none)) = some r := H
              have A28 := Aside0.mk A280
              clear A280
              by_cases c29 : t145.size + 1 ≤ 9223372036854775807
              ·rw [if_pos c29] at H
               have c29b0 := eq_true c29
               have c29b1 : decide (t145.size + 1 ≤ 9223372036854775807) = true := decide_eq_true c29
               try have c29b2 : (9223372036854775807 < t145.size + 1) = False := eq_false (Nat.not_lt.2 c29)
               have Sc29 := Aside0.mk c29
               clear c29
               by_cases c30 : (t145 ++ (⟨#[58]⟩ : ByteArray)).size + t143.size ≤ 9223372036854775807
               ·rw [if_pos c30] at H
                have c30b0 := eq_true c30
                have c30b1 : decide ((t145 ++ (⟨#[58]⟩ : ByteArray)).size + t143.size ≤ 9223372036854775807) = true := decide_eq_true c30
                try have c30b2 : (9223372036854775807 < (t145 ++ (⟨#[58]⟩ : ByteArray)).size + t143.size) = False := eq_false (Nat.not_lt.2 c30)
                have Sc30 := Aside0.mk c30
                clear c30
                by_cases c31 : x3_2.length < 8796093022208
                ·rw [if_pos c31] at H
                 have LMc31 := Aside0.mk c31
                 clear c31
                 obtain ⟨y146, hy146⟩ : ∃ y_ : List ByteArray, y_ = (x3_2 ++ [(t145 ++ (⟨#[58]⟩ : ByteArray)) ++ t143]) := ⟨_, rfl⟩
                 replace H : (value_text.l0 k2 y146 l0_4 (l0_4.length : Int) (wrap64 (x31_2 + 1)) a0_0 a0_1 a0_2 a0_3 l0_4 l0_5) = some r := by first | (rw [hy146]; with_reducible exact H) | (have H2_ := (Option.bind_some _ _).symm.trans H; rw [hy146]; with_reducible exact H2_) | (have H2_ := (Option.bind_some _ _).symm.trans H; with_reducible exact H2_) | with_reducible exact H | (rw [hy146]; exact H) | exact H
                 have Ny146 := Aside0.mk hy146
                 clear hy146
                 have H' := Aside0.mk H
                 clear H
                 have p141 : 0 ≤ (x31_2 : Int) := of_decide_eq_true (by first | (with_reducible assumption) | assumption)
                 have q141 : x31_2 < (l0_4.length : Int) := of_decide_eq_true (by first | (with_reducible assumption) | assumption)
                 obtain ⟨ad141, A141_4, c141_4, A141_5, c141_5, e141, hx141_0, hx141_1, hx141_2, hx141_3, hx141_4, hx141_5, hl141_4, hi141_4, hl141_5, hi141_5⟩ := at_T25 HR0_4.out x31_2 p141 q141
                 cases e141
                 replace hx141_0 := (HB.out.cell (World.block_lt_of_cell? w _ hx141_0)).trans hx141_0
                 replace hx141_1 := (HB.out.cell (World.block_lt_of_cell? w _ hx141_1)).trans hx141_1
                 replace hx141_2 := (HB.out.cell (World.block_lt_of_cell? w _ hx141_2)).trans hx141_2
                 replace hx141_3 := (HB.out.cell (World.block_lt_of_cell? w _ hx141_3)).trans hx141_3
                 replace hx141_4 := (HB.out.cell (World.block_lt_of_cell? w _ hx141_4)).trans hx141_4
                 replace hx141_5 := (HB.out.cell (World.block_lt_of_cell? w _ hx141_5)).trans hx141_5
                 have HR141_4 := Aside0.mk hi141_4
                 have HC141_4 := Aside0.mk hl141_4
                 clear hi141_4 hl141_4
                 have HR141_5 := Aside0.mk hi141_5
                 have HC141_5 := Aside0.mk hl141_5
                 clear hi141_5 hl141_5
                 replace p141 := eq_true p141
                 replace q141 := eq_true q141
                 go_wp2_with (first | ((with_reducible refine qAy (N := 5) rfl ?_); refine qA1 ?hg (N := 5) ?hd (cs := #[.int .i64 0, .bool false, .int .i64 0, .string (⟨#[]⟩ : ByteArray), .slice none 0 0, .slice none 0 0]) (t := 25) ?hr ?_; (case hd => rfl); (case hg => rfl); (case hr => first | (go_simp; done) | (go_simp; rfl)); intro gb142 hg w32 hbox hb; have n0_ := Aside0.mk (Kd.R_below (by (with_reducible repeat (first | apply Kd.R_alloc | apply Kd.R_drewN | apply Kd.R_drew)); exact HO_3.out) hb); have n1_ := Aside0.mk (qAj (g := gb136) (o := .cells #[.int .i64 a0_0, .bool a0_1, .int .i64 a0_2, .string a0_3, .slice (some ad141) l0_4.length c0_4, .slice A0_5 l0_5.length c0_5] 25 (0, 0)) (by (with_reducible repeat (first | refine qAg ?_ _ | refine qAh ?_ | refine blk_alloc ?_ _)); exact BK136.out) hb); have n2_ := Aside0.mk (qAi (by repeat (first | (with_reducible first | exact HB.out | apply qAd | apply qAc | apply qAe | refine qAf ?_ GE136.out) | exact HB.out)) hb); have n3_ := Aside0.mk (hbox); have n4_ := Aside0.mk ((by rw [hg]; exact (qAn (by repeat (first | (with_reducible first | exact HB.out | apply qAd | apply qAc | apply qAe | refine qAf ?_ GE136.out) | exact HB.out))) : w.heap.size ≤ gb142)); have n5_ := Aside0.mk ((by rw [hg]; exact (qAn (by repeat (first | (with_reducible first | exact HB.out | apply qAd | apply qAc | apply qAe | refine qAf ?_ GE136.out) | exact HB.out))) : w.heap.size ≤ gb142)); have n6_ := Aside0.mk ((by rw [hg]; exact Nat.ne_of_lt (blk_lt (g := gb136) (o := .cells #[.int .i64 a0_0, .bool a0_1, .int .i64 a0_2, .string a0_3, .slice (some ad141) l0_4.length c0_4, .slice A0_5 l0_5.length c0_5] 25 (0, 0)) (by (with_reducible repeat (first | refine qAg ?_ _ | refine qAh ?_ | refine blk_alloc ?_ _)); exact BK136.out)) : gb136 ≠ gb142)); have n7_ := Aside0.mk ((by rw [hg]; exact Nat.ne_of_gt (blk_lt (g := gb136) (o := .cells #[.int .i64 a0_0, .bool a0_1, .int .i64 a0_2, .string a0_3, .slice (some ad141) l0_4.length c0_4, .slice A0_5 l0_5.length c0_5] 25 (0, 0)) (by (with_reducible repeat (first | refine qAg ?_ _ | refine qAh ?_ | refine blk_alloc ?_ _)); exact BK136.out)) : gb142 ≠ gb136)); clear HO_3; clear BK136; clear HB; have HO_3 := n0_; have BK136 := n1_; have HB := n2_; have BK142 := n3_; have GW142 := n4_; have GE142 := n5_; have NB136_142 := n6_; have NB142_136 := n7_; clear n0_ n1_ n2_ n3_ n4_ n5_ n6_ n7_; clear hb hbox hg; have hnb33 := NB142_136.out; have hnc33 := NB136_142.out; have hcz34_0 : w32.cell? ⟨gb142, 0, none⟩ = some (.int .i64 0) := (qAb BK142.out 0).trans rfl; have hcz34_1 : w32.cell? ⟨gb142, 1, none⟩ = some (.bool false) := (qAb BK142.out 1).trans rfl; have hcz34_2 : w32.cell? ⟨gb142, 2, none⟩ = some (.int .i64 0) := (qAb BK142.out 2).trans rfl; have hcz34_3 : w32.cell? ⟨gb142, 3, none⟩ = some (.string (⟨#[]⟩ : ByteArray)) := (qAb BK142.out 3).trans rfl; have hcz34_4 : w32.cell? ⟨gb142, 4, none⟩ = some (.slice none 0 0) := (qAb BK142.out 4).trans rfl; have hcz34_5 : w32.cell? ⟨gb142, 5, none⟩ = some (.slice none 0 0) := (qAb BK142.out 5).trans rfl; have hfz34_0 := qAa BK142.out 0; have hfz34_1 := qAa BK142.out 1; have hfz34_2 := qAa BK142.out 2; have hfz34_3 := qAa BK142.out 3; have hfz34_4 := qAa BK142.out 4; have hfz34_5 := qAa BK142.out 5) | ((with_reducible refine qAp (f := 47) rfl ?_); refine goesL_ (some 37) rfl rfl Tryd.func47 (by kernel_rfl) rfl #[.agg #[.int .i64 ((rd_T25 l0_4 x31_2).f0), .bool ((rd_T25 l0_4 x31_2).f1), .int .i64 ((rd_T25 l0_4 x31_2).f2), .string ((rd_T25 l0_4 x31_2).f3), .slice A141_4 ((rd_T25 l0_4 x31_2).f4).length c141_4, .slice A141_5 ((rd_T25 l0_4 x31_2).f5).length c141_5]] rfl (by (try simp only [List.map_toArray, List.map_cons, List.map_nil]); first | done | rfl | (simp only [List.length_drop, List.length_take]; rfl)) ?_; (with_reducible refine (ih k2 (by have := HJ15.out; have := HK2.out; omega) ((rd_T25 l0_4 x31_2).f0) ((rd_T25 l0_4 x31_2).f1) ((rd_T25 l0_4 x31_2).f2) ((rd_T25 l0_4 x31_2).f3) _ _ ((rd_T25 l0_4 x31_2).f4) _ _ ((rd_T25 l0_4 x31_2).f5) t143 _ ?side1 ?side2 ?side3 ?side4 ?side5 A25.out).mono ?_); (case side1 => exact ⟨Tabs.below hT.out (by repeat (first | (with_reducible first | exact HB.out | apply qAd | apply qAc | apply qAe | refine qAf ?_ GE136.out | refine qAf ?_ GE142.out) | exact HB.out))⟩); (case side2 => exact Kd.C_below HR141_4.out (by repeat (first | (with_reducible first | exact HB.out | apply qAd | apply qAc | apply qAe | refine qAf ?_ GE136.out | refine qAf ?_ GE142.out) | exact HB.out))); (case side3 => exact HC141_4.out); (case side4 => exact Kd.C_below HR141_5.out (by repeat (first | (with_reducible first | exact HB.out | apply qAd | apply qAc | apply qAe | refine qAf ?_ GE136.out | refine qAf ?_ GE142.out) | exact HB.out))); (case side5 => exact HC141_5.out); rintro e w35 ⟨rfl, hb⟩; refine ⟨_, rfl, ?_⟩; have n0_ := Aside0.mk (Kd.R_below (by (with_reducible repeat (first | apply Kd.R_alloc | apply Kd.R_drewN | apply Kd.R_drew)); exact (Kd.R_mono (Kd.R_far (p := ⟨gb142, 5, none⟩) (Kd.R_far (p := ⟨gb142, 4, none⟩) (Kd.R_far (p := ⟨gb142, 3, none⟩) (Kd.R_far (p := ⟨gb142, 2, none⟩) (Kd.R_far (p := ⟨gb142, 1, none⟩) (Kd.R_far (p := ⟨gb142, 0, none⟩) (Kd.R_types HO_3.out BK142.out (by decide)) (fun _ hk => hk.2) (.int .i64 ((rd_T25 l0_4 x31_2).f0))) (fun _ hk => hk.2) (.bool ((rd_T25 l0_4 x31_2).f1))) (fun _ hk => hk.2) (.int .i64 ((rd_T25 l0_4 x31_2).f2))) (fun _ hk => hk.2) (.string ((rd_T25 l0_4 x31_2).f3))) (fun _ hk => hk.2) (.slice A141_4 ((rd_T25 l0_4 x31_2).f4).length c141_4)) (fun _ hk => hk.2) (.slice A141_5 ((rd_T25 l0_4 x31_2).f5).length c141_5)) (fun _ h_ => h_.1))) hb); have n1_ := Aside0.mk (qAj (g := gb136) (o := .cells #[.int .i64 a0_0, .bool a0_1, .int .i64 a0_2, .string a0_3, .slice (some ad141) l0_4.length c0_4, .slice A0_5 l0_5.length c0_5] 25 (0, 0)) (by (with_reducible repeat (first | refine qAg ?_ _ | refine qAh ?_ | refine blk_alloc ?_ _)); refine qA7 ?_ NB136_142.out _; (with_reducible repeat (first | refine qAg ?_ _ | refine qAh ?_ | refine blk_alloc ?_ _)); refine qA7 ?_ NB136_142.out _; (with_reducible repeat (first | refine qAg ?_ _ | refine qAh ?_ | refine blk_alloc ?_ _)); refine qA7 ?_ NB136_142.out _; (with_reducible repeat (first | refine qAg ?_ _ | refine qAh ?_ | refine blk_alloc ?_ _)); refine qA7 ?_ NB136_142.out _; (with_reducible repeat (first | refine qAg ?_ _ | refine qAh ?_ | refine blk_alloc ?_ _)); refine qA7 ?_ NB136_142.out _; (with_reducible repeat (first | refine qAg ?_ _ | refine qAh ?_ | refine blk_alloc ?_ _)); refine qA7 ?_ NB136_142.out _; (with_reducible repeat (first | refine qAg ?_ _ | refine qAh ?_ | refine blk_alloc ?_ _)); exact BK136.out) hb); have n2_ := Aside0.mk (qAj (g := gb142) (o := .cells #[.int .i64 ((rd_T25 l0_4 x31_2).f0), .bool ((rd_T25 l0_4 x31_2).f1), .int .i64 ((rd_T25 l0_4 x31_2).f2), .string ((rd_T25 l0_4 x31_2).f3), .slice A141_4 ((rd_T25 l0_4 x31_2).f4).length c141_4, .slice A141_5 ((rd_T25 l0_4 x31_2).f5).length c141_5] 25 (0, 0)) (by (with_reducible repeat (first | refine qAg ?_ _ | refine qAh ?_ | refine blk_alloc ?_ _)); refine qA0 (cs := #[.int .i64 ((rd_T25 l0_4 x31_2).f0), .bool ((rd_T25 l0_4 x31_2).f1), .int .i64 ((rd_T25 l0_4 x31_2).f2), .string ((rd_T25 l0_4 x31_2).f3), .slice A141_4 ((rd_T25 l0_4 x31_2).f4).length c141_4, .slice none 0 0]) ?_ 5 _ rfl; (with_reducible repeat (first | refine qAg ?_ _ | refine qAh ?_ | refine blk_alloc ?_ _)); refine qA0 (cs := #[.int .i64 ((rd_T25 l0_4 x31_2).f0), .bool ((rd_T25 l0_4 x31_2).f1), .int .i64 ((rd_T25 l0_4 x31_2).f2), .string ((rd_T25 l0_4 x31_2).f3), .slice none 0 0, .slice none 0 0]) ?_ 4 _ rfl; (with_reducible repeat (first | refine qAg ?_ _ | refine qAh ?_ | refine blk_alloc ?_ _)); refine qA0 (cs := #[.int .i64 ((rd_T25 l0_4 x31_2).f0), .bool ((rd_T25 l0_4 x31_2).f1), .int .i64 ((rd_T25 l0_4 x31_2).f2), .string (⟨#[]⟩ : ByteArray), .slice none 0 0, .slice none 0 0]) ?_ 3 _ rfl; (with_reducible repeat (first | refine qAg ?_ _ | refine qAh ?_ | refine blk_alloc ?_ _)); refine qA0 (cs := #[.int .i64 ((rd_T25 l0_4 x31_2).f0), .bool ((rd_T25 l0_4 x31_2).f1), .int .i64 0, .string (⟨#[]⟩ : ByteArray), .slice none 0 0, .slice none 0 0]) ?_ 2 _ rfl; (with_reducible repeat (first | refine qAg ?_ _ | refine qAh ?_ | refine blk_alloc ?_ _)); refine qA0 (cs := #[.int .i64 ((rd_T25 l0_4 x31_2).f0), .bool false, .int .i64 0, .string (⟨#[]⟩ : ByteArray), .slice none 0 0, .slice none 0 0]) ?_ 1 _ rfl; (with_reducible repeat (first | refine qAg ?_ _ | refine qAh ?_ | refine blk_alloc ?_ _)); refine qA0 (cs := #[.int .i64 0, .bool false, .int .i64 0, .string (⟨#[]⟩ : ByteArray), .slice none 0 0, .slice none 0 0]) ?_ 0 _ rfl; (with_reducible repeat (first | refine qAg ?_ _ | refine qAh ?_ | refine blk_alloc ?_ _)); exact BK142.out) hb); have n3_ := Aside0.mk (qAi (by repeat (first | (with_reducible first | exact HB.out | apply qAd | apply qAc | apply qAe | refine qAf ?_ GE136.out | refine qAf ?_ GE142.out) | exact HB.out)) hb); clear HO_3; clear BK136; clear BK142; clear HB; have HO_3 := n0_; have BK136 := n1_; have BK142 := n2_; have HB := n3_; clear n0_ n1_ n2_ n3_; (try clear hb); (try clear hb2); (try clear hk); (try clear hi); have hcz36_0 : w35.cell? ⟨gb136, 0, none⟩ = some (.int .i64 a0_0) := (qAb BK136.out 0).trans rfl; have hcz36_1 : w35.cell? ⟨gb136, 1, none⟩ = some (.bool a0_1) := (qAb BK136.out 1).trans rfl; have hcz36_2 : w35.cell? ⟨gb136, 2, none⟩ = some (.int .i64 a0_2) := (qAb BK136.out 2).trans rfl; have hcz36_3 : w35.cell? ⟨gb136, 3, none⟩ = some (.string a0_3) := (qAb BK136.out 3).trans rfl; have hcz36_4 : w35.cell? ⟨gb136, 4, none⟩ = some (.slice (some ad141) l0_4.length c0_4) := (qAb BK136.out 4).trans rfl; have hcz36_5 : w35.cell? ⟨gb136, 5, none⟩ = some (.slice A0_5 l0_5.length c0_5) := (qAb BK136.out 5).trans rfl; have hfz36_0 := qAa BK136.out 0; have hfz36_1 := qAa BK136.out 1; have hfz36_2 := qAa BK136.out 2; have hfz36_3 := qAa BK136.out 3; have hfz36_4 := qAa BK136.out 4; have hfz36_5 := qAa BK136.out 5; have p144 : 0 ≤ (x31_2 : Int) := of_decide_eq_true (by first | (with_reducible assumption) | assumption); have q144 : x31_2 < (l0_5.length : Int) := of_decide_eq_true (by first | (with_reducible assumption) | assumption); obtain ⟨ad144, e144, hx144_0⟩ := Kd.at_string HR0_5.out x31_2 p144 q144; cases e144; replace hx144_0 := (HB.out.cell (World.block_lt_of_cell? w _ hx144_0)).trans hx144_0; replace p144 := eq_true p144; replace q144 := eq_true q144) | ((with_reducible refine qAp (f := 26) rfl ?_); refine goesL_ (some 46) rfl rfl Tryd.func26 (by kernel_rfl) rfl #[.string (rdOf ByteArray.empty l0_5 x31_2)] rfl (by (try simp only [List.map_toArray, List.map_cons, List.map_nil]); first | done | rfl | (simp only [List.length_drop, List.length_take]; rfl)) ?_; (with_reducible refine (value_Quote.calls k2 (rdOf ByteArray.empty l0_5 x31_2) t145 _ A28.out).mono ?_); rintro e w37 ⟨rfl, hb⟩; refine ⟨_, rfl, ?_⟩; have n0_ := Aside0.mk (Kd.R_below (by (with_reducible repeat (first | apply Kd.R_alloc | apply Kd.R_drewN | apply Kd.R_drew)); exact HO_3.out) hb); have n1_ := Aside0.mk (qAj (g := gb136) (o := .cells #[.int .i64 a0_0, .bool a0_1, .int .i64 a0_2, .string a0_3, .slice (some ad141) l0_4.length c0_4, .slice (some ad144) l0_5.length c0_5] 25 (0, 0)) (by (with_reducible repeat (first | refine qAg ?_ _ | refine qAh ?_ | refine blk_alloc ?_ _)); exact BK136.out) hb); have n2_ := Aside0.mk (qAj (g := gb142) (o := .cells #[.int .i64 ((rd_T25 l0_4 x31_2).f0), .bool ((rd_T25 l0_4 x31_2).f1), .int .i64 ((rd_T25 l0_4 x31_2).f2), .string ((rd_T25 l0_4 x31_2).f3), .slice A141_4 ((rd_T25 l0_4 x31_2).f4).length c141_4, .slice A141_5 ((rd_T25 l0_4 x31_2).f5).length c141_5] 25 (0, 0)) (by (with_reducible repeat (first | refine qAg ?_ _ | refine qAh ?_ | refine blk_alloc ?_ _)); exact BK142.out) hb); have n3_ := Aside0.mk (qAi (by repeat (first | (with_reducible first | exact HB.out | apply qAd | apply qAc | apply qAe | refine qAf ?_ GE136.out | refine qAf ?_ GE142.out) | exact HB.out)) hb); clear HO_3; clear BK136; clear BK142; clear HB; have HO_3 := n0_; have BK136 := n1_; have BK142 := n2_; have HB := n3_; clear n0_ n1_ n2_ n3_; (try clear hb); (try clear hb2); (try clear hk); (try clear hi)) | ((with_reducible refine qBi (b := .append) (xs := #[.tmp 50, .tmp 52]) rfl ?_); at_builtin; refine Kd.R_append Kd.string (w0 := w) w.heap.size rfl (.tmp 50) (.tmp 52) 23 9 (.string ⟨#[]⟩) 16 rfl Tryd.underlying23 info9 rfl (by decide) (by omega) u3 x3_2 ((t145 ++ (⟨#[58]⟩ : ByteArray)) ++ t143) [.string ((t145 ++ (⟨#[58]⟩ : ByteArray)) ++ t143)] (fun _ => True) (fun _ => False) rfl rfl ?aP (fun _ hk => hk.elim) ?aF ?aO ?aB ?aS ?aL ?_; (case aP => exact rfl); (case aB => exact (by repeat (first | (with_reducible first | exact HB.out | apply qAd | apply qAc | apply qAe | refine qAf ?_ GE136.out | refine qAf ?_ GE142.out) | exact HB.out))); (case aF => exact (fun _ _ => trivial)); (case aO => exact (by (with_reducible repeat (first | apply Kd.R_alloc | apply Kd.R_drewN | apply Kd.R_drew)); exact HO_3.out)); (case aS => exact (qAn (by repeat (first | (with_reducible first | exact HB.out | apply qAd | apply qAc | apply qAe | refine qAf ?_ GE136.out | refine qAf ?_ GE142.out) | exact HB.out)))); (case aL => have := LMc31.out; omega); intro v147 w38 ho hb hg hat; rw [← Ny146.out] at ho; have n0_ := Aside0.mk (qCk (g := gb136) (o := .cells #[.int .i64 a0_0, .bool a0_1, .int .i64 a0_2, .string a0_3, .slice (some ad141) l0_4.length c0_4, .slice (some ad144) l0_5.length c0_5] 25 (0, 0)) (by (with_reducible repeat (first | refine qAg ?_ _ | refine qAh ?_ | refine blk_alloc ?_ _)); exact BK136.out) hg (Kd.R_ne HO_3.out BK136.out (by decide))); have n1_ := Aside0.mk (qCk (g := gb142) (o := .cells #[.int .i64 ((rd_T25 l0_4 x31_2).f0), .bool ((rd_T25 l0_4 x31_2).f1), .int .i64 ((rd_T25 l0_4 x31_2).f2), .string ((rd_T25 l0_4 x31_2).f3), .slice A141_4 ((rd_T25 l0_4 x31_2).f4).length c141_4, .slice A141_5 ((rd_T25 l0_4 x31_2).f5).length c141_5] 25 (0, 0)) (by (with_reducible repeat (first | refine qAg ?_ _ | refine qAh ?_ | refine blk_alloc ?_ _)); exact BK142.out) hg (Kd.R_ne HO_3.out BK142.out (by decide))); have n2_ := Aside0.mk (hb); have n3_ := Aside0.mk (ho); clear BK136; clear BK142; clear HB; clear HO_3; have BK136 := n0_; have BK142 := n1_; have HB := n2_; have HO148 := n3_; clear n0_ n1_ n2_ n3_; clear ho hb hg hat))
                 try any_goals (exfalso; have h_ := Sc29.out; rename_i hb_; (try simp only [ByteArray.size_extract, ByteArray.size_append] at h_ hb_); (try simp only [ByteArray.size, List.size_toArray, List.length_cons, List.length_nil] at h_ hb_); omega)
                 try any_goals (exfalso; have h_ := Sc30.out; rename_i hb_; (try simp only [ByteArray.size_extract, ByteArray.size_append] at h_ hb_); (try simp only [ByteArray.size, List.size_toArray, List.length_cons, List.length_nil] at h_ hb_); omega)
                 go_roundg k2
                 case measure => have := HJ15.out; have := HK2.out; omega
                 case rel => exact ⟨(y146), (wrap64 (x31_2 + 1)), (by first | rfl | (simp; done) | (simp [*]; done) | exact congrArg Value.bool (nil_ne _) | exact congrArg Value.bool (nil_eq _) | exact congrArg Value.bool (nil_ne' _)), H', ⟨by have := HJ15.out; have := HK2.out; omega⟩, ⟨by (with_reducible repeat (first | apply Kd.R_alloc | apply Kd.R_drewN | apply Kd.R_drew)); exact HO148.out⟩, ⟨by (with_reducible repeat (first | refine qAg ?_ _ | refine qAh ?_ | refine blk_alloc ?_ _)); exact BK136.out⟩, ⟨by repeat (first | (with_reducible first | exact HB.out | apply qAd | apply qAc | apply qAe | refine qAf ?_ GE136.out | refine qAf ?_ GE142.out) | exact HB.out)⟩⟩
                ·rw [if_neg c31] at H
                 exact absurd H (by simp)
               ·rw [if_neg c30] at H
                exact absurd H (by simp)
              ·rw [if_neg c29] at H
               exact absurd H (by simp)
             ·rw [if_neg c27] at H
              exact absurd H (by simp)
            ·rw [if_neg c26] at H
             have c26b0 : (a0_0 == 5) = false := beq_eq_false_iff_ne.mpr c26
             have c26b1 : (a0_0 != 5) = true := bne_iff_ne.mpr c26
             by_cases c39 : x3_2.length < 8796093022208
             ·rw [if_pos c39] at H
              have LMc39 := Aside0.mk c39
              clear c39
              obtain ⟨y149, hy149⟩ : ∃ y_ : List ByteArray, y_ = (x3_2 ++ [t143]) := ⟨_, rfl⟩
              replace H : (value_text.l0 k2 y149 l0_4 (l0_4.length : Int) (wrap64 (x31_2 + 1)) a0_0 a0_1 a0_2 a0_3 l0_4 l0_5) = some r := by first | (rw [hy149]; with_reducible exact H) | (have H2_ := (Option.bind_some _ _).symm.trans H; rw [hy149]; with_reducible exact H2_) | (have H2_ := (Option.bind_some _ _).symm.trans H; with_reducible exact H2_) | with_reducible exact H | (rw [hy149]; exact H) | exact H
              have Ny149 := Aside0.mk hy149
              clear hy149
              have H' := Aside0.mk H
              clear H
              have p141 : 0 ≤ (x31_2 : Int) := of_decide_eq_true (by first | (with_reducible assumption) | assumption)
              have q141 : x31_2 < (l0_4.length : Int) := of_decide_eq_true (by first | (with_reducible assumption) | assumption)
              obtain ⟨ad141, A141_4, c141_4, A141_5, c141_5, e141, hx141_0, hx141_1, hx141_2, hx141_3, hx141_4, hx141_5, hl141_4, hi141_4, hl141_5, hi141_5⟩ := at_T25 HR0_4.out x31_2 p141 q141
              cases e141
              replace hx141_0 := (HB.out.cell (World.block_lt_of_cell? w _ hx141_0)).trans hx141_0
              replace hx141_1 := (HB.out.cell (World.block_lt_of_cell? w _ hx141_1)).trans hx141_1
              replace hx141_2 := (HB.out.cell (World.block_lt_of_cell? w _ hx141_2)).trans hx141_2
              replace hx141_3 := (HB.out.cell (World.block_lt_of_cell? w _ hx141_3)).trans hx141_3
              replace hx141_4 := (HB.out.cell (World.block_lt_of_cell? w _ hx141_4)).trans hx141_4
              replace hx141_5 := (HB.out.cell (World.block_lt_of_cell? w _ hx141_5)).trans hx141_5
              have HR141_4 := Aside0.mk hi141_4
              have HC141_4 := Aside0.mk hl141_4
              clear hi141_4 hl141_4
              have HR141_5 := Aside0.mk hi141_5
              have HC141_5 := Aside0.mk hl141_5
              clear hi141_5 hl141_5
              replace p141 := eq_true p141
              replace q141 := eq_true q141
              go_wp2_with (first | ((with_reducible refine qAy (N := 5) rfl ?_); refine qA1 ?hg (N := 5) ?hd (cs := #[.int .i64 0, .bool false, .int .i64 0, .string (⟨#[]⟩ : ByteArray), .slice none 0 0, .slice none 0 0]) (t := 25) ?hr ?_; (case hd => rfl); (case hg => rfl); (case hr => first | (go_simp; done) | (go_simp; rfl)); intro gb142 hg w40 hbox hb; have n0_ := Aside0.mk (Kd.R_below (by (with_reducible repeat (first | apply Kd.R_alloc | apply Kd.R_drewN | apply Kd.R_drew)); exact HO_3.out) hb); have n1_ := Aside0.mk (qAj (g := gb136) (o := .cells #[.int .i64 a0_0, .bool a0_1, .int .i64 a0_2, .string a0_3, .slice (some ad141) l0_4.length c0_4, .slice A0_5 l0_5.length c0_5] 25 (0, 0)) (by (with_reducible repeat (first | refine qAg ?_ _ | refine qAh ?_ | refine blk_alloc ?_ _)); exact BK136.out) hb); have n2_ := Aside0.mk (qAi (by repeat (first | (with_reducible first | exact HB.out | apply qAd | apply qAc | apply qAe | refine qAf ?_ GE136.out) | exact HB.out)) hb); have n3_ := Aside0.mk (hbox); have n4_ := Aside0.mk ((by rw [hg]; exact (qAn (by repeat (first | (with_reducible first | exact HB.out | apply qAd | apply qAc | apply qAe | refine qAf ?_ GE136.out) | exact HB.out))) : w.heap.size ≤ gb142)); have n5_ := Aside0.mk ((by rw [hg]; exact (qAn (by repeat (first | (with_reducible first | exact HB.out | apply qAd | apply qAc | apply qAe | refine qAf ?_ GE136.out) | exact HB.out))) : w.heap.size ≤ gb142)); have n6_ := Aside0.mk ((by rw [hg]; exact Nat.ne_of_lt (blk_lt (g := gb136) (o := .cells #[.int .i64 a0_0, .bool a0_1, .int .i64 a0_2, .string a0_3, .slice (some ad141) l0_4.length c0_4, .slice A0_5 l0_5.length c0_5] 25 (0, 0)) (by (with_reducible repeat (first | refine qAg ?_ _ | refine qAh ?_ | refine blk_alloc ?_ _)); exact BK136.out)) : gb136 ≠ gb142)); have n7_ := Aside0.mk ((by rw [hg]; exact Nat.ne_of_gt (blk_lt (g := gb136) (o := .cells #[.int .i64 a0_0, .bool a0_1, .int .i64 a0_2, .string a0_3, .slice (some ad141) l0_4.length c0_4, .slice A0_5 l0_5.length c0_5] 25 (0, 0)) (by (with_reducible repeat (first | refine qAg ?_ _ | refine qAh ?_ | refine blk_alloc ?_ _)); exact BK136.out)) : gb142 ≠ gb136)); clear HO_3; clear BK136; clear HB; have HO_3 := n0_; have BK136 := n1_; have HB := n2_; have BK142 := n3_; have GW142 := n4_; have GE142 := n5_; have NB136_142 := n6_; have NB142_136 := n7_; clear n0_ n1_ n2_ n3_ n4_ n5_ n6_ n7_; clear hb hbox hg; have hnb41 := NB142_136.out; have hnc41 := NB136_142.out; have hcz42_0 : w40.cell? ⟨gb142, 0, none⟩ = some (.int .i64 0) := (qAb BK142.out 0).trans rfl; have hcz42_1 : w40.cell? ⟨gb142, 1, none⟩ = some (.bool false) := (qAb BK142.out 1).trans rfl; have hcz42_2 : w40.cell? ⟨gb142, 2, none⟩ = some (.int .i64 0) := (qAb BK142.out 2).trans rfl; have hcz42_3 : w40.cell? ⟨gb142, 3, none⟩ = some (.string (⟨#[]⟩ : ByteArray)) := (qAb BK142.out 3).trans rfl; have hcz42_4 : w40.cell? ⟨gb142, 4, none⟩ = some (.slice none 0 0) := (qAb BK142.out 4).trans rfl; have hcz42_5 : w40.cell? ⟨gb142, 5, none⟩ = some (.slice none 0 0) := (qAb BK142.out 5).trans rfl; have hfz42_0 := qAa BK142.out 0; have hfz42_1 := qAa BK142.out 1; have hfz42_2 := qAa BK142.out 2; have hfz42_3 := qAa BK142.out 3; have hfz42_4 := qAa BK142.out 4; have hfz42_5 := qAa BK142.out 5) | ((with_reducible refine qAp (f := 47) rfl ?_); refine goesL_ (some 37) rfl rfl Tryd.func47 (by kernel_rfl) rfl #[.agg #[.int .i64 ((rd_T25 l0_4 x31_2).f0), .bool ((rd_T25 l0_4 x31_2).f1), .int .i64 ((rd_T25 l0_4 x31_2).f2), .string ((rd_T25 l0_4 x31_2).f3), .slice A141_4 ((rd_T25 l0_4 x31_2).f4).length c141_4, .slice A141_5 ((rd_T25 l0_4 x31_2).f5).length c141_5]] rfl (by (try simp only [List.map_toArray, List.map_cons, List.map_nil]); first | done | rfl | (simp only [List.length_drop, List.length_take]; rfl)) ?_; (with_reducible refine (ih k2 (by have := HJ15.out; have := HK2.out; omega) ((rd_T25 l0_4 x31_2).f0) ((rd_T25 l0_4 x31_2).f1) ((rd_T25 l0_4 x31_2).f2) ((rd_T25 l0_4 x31_2).f3) _ _ ((rd_T25 l0_4 x31_2).f4) _ _ ((rd_T25 l0_4 x31_2).f5) t143 _ ?side1 ?side2 ?side3 ?side4 ?side5 A25.out).mono ?_); (case side1 => exact ⟨Tabs.below hT.out (by repeat (first | (with_reducible first | exact HB.out | apply qAd | apply qAc | apply qAe | refine qAf ?_ GE136.out | refine qAf ?_ GE142.out) | exact HB.out))⟩); (case side2 => exact Kd.C_below HR141_4.out (by repeat (first | (with_reducible first | exact HB.out | apply qAd | apply qAc | apply qAe | refine qAf ?_ GE136.out | refine qAf ?_ GE142.out) | exact HB.out))); (case side3 => exact HC141_4.out); (case side4 => exact Kd.C_below HR141_5.out (by repeat (first | (with_reducible first | exact HB.out | apply qAd | apply qAc | apply qAe | refine qAf ?_ GE136.out | refine qAf ?_ GE142.out) | exact HB.out))); (case side5 => exact HC141_5.out); rintro e w43 ⟨rfl, hb⟩; refine ⟨_, rfl, ?_⟩; have n0_ := Aside0.mk (Kd.R_below (by (with_reducible repeat (first | apply Kd.R_alloc | apply Kd.R_drewN | apply Kd.R_drew)); exact (Kd.R_mono (Kd.R_far (p := ⟨gb142, 5, none⟩) (Kd.R_far (p := ⟨gb142, 4, none⟩) (Kd.R_far (p := ⟨gb142, 3, none⟩) (Kd.R_far (p := ⟨gb142, 2, none⟩) (Kd.R_far (p := ⟨gb142, 1, none⟩) (Kd.R_far (p := ⟨gb142, 0, none⟩) (Kd.R_types HO_3.out BK142.out (by decide)) (fun _ hk => hk.2) (.int .i64 ((rd_T25 l0_4 x31_2).f0))) (fun _ hk => hk.2) (.bool ((rd_T25 l0_4 x31_2).f1))) (fun _ hk => hk.2) (.int .i64 ((rd_T25 l0_4 x31_2).f2))) (fun _ hk => hk.2) (.string ((rd_T25 l0_4 x31_2).f3))) (fun _ hk => hk.2) (.slice A141_4 ((rd_T25 l0_4 x31_2).f4).length c141_4)) (fun _ hk => hk.2) (.slice A141_5 ((rd_T25 l0_4 x31_2).f5).length c141_5)) (fun _ h_ => h_.1))) hb); have n1_ := Aside0.mk (qAj (g := gb136) (o := .cells #[.int .i64 a0_0, .bool a0_1, .int .i64 a0_2, .string a0_3, .slice (some ad141) l0_4.length c0_4, .slice A0_5 l0_5.length c0_5] 25 (0, 0)) (by (with_reducible repeat (first | refine qAg ?_ _ | refine qAh ?_ | refine blk_alloc ?_ _)); refine qA7 ?_ NB136_142.out _; (with_reducible repeat (first | refine qAg ?_ _ | refine qAh ?_ | refine blk_alloc ?_ _)); refine qA7 ?_ NB136_142.out _; (with_reducible repeat (first | refine qAg ?_ _ | refine qAh ?_ | refine blk_alloc ?_ _)); refine qA7 ?_ NB136_142.out _; (with_reducible repeat (first | refine qAg ?_ _ | refine qAh ?_ | refine blk_alloc ?_ _)); refine qA7 ?_ NB136_142.out _; (with_reducible repeat (first | refine qAg ?_ _ | refine qAh ?_ | refine blk_alloc ?_ _)); refine qA7 ?_ NB136_142.out _; (with_reducible repeat (first | refine qAg ?_ _ | refine qAh ?_ | refine blk_alloc ?_ _)); refine qA7 ?_ NB136_142.out _; (with_reducible repeat (first | refine qAg ?_ _ | refine qAh ?_ | refine blk_alloc ?_ _)); exact BK136.out) hb); have n2_ := Aside0.mk (qAj (g := gb142) (o := .cells #[.int .i64 ((rd_T25 l0_4 x31_2).f0), .bool ((rd_T25 l0_4 x31_2).f1), .int .i64 ((rd_T25 l0_4 x31_2).f2), .string ((rd_T25 l0_4 x31_2).f3), .slice A141_4 ((rd_T25 l0_4 x31_2).f4).length c141_4, .slice A141_5 ((rd_T25 l0_4 x31_2).f5).length c141_5] 25 (0, 0)) (by (with_reducible repeat (first | refine qAg ?_ _ | refine qAh ?_ | refine blk_alloc ?_ _)); refine qA0 (cs := #[.int .i64 ((rd_T25 l0_4 x31_2).f0), .bool ((rd_T25 l0_4 x31_2).f1), .int .i64 ((rd_T25 l0_4 x31_2).f2), .string ((rd_T25 l0_4 x31_2).f3), .slice A141_4 ((rd_T25 l0_4 x31_2).f4).length c141_4, .slice none 0 0]) ?_ 5 _ rfl; (with_reducible repeat (first | refine qAg ?_ _ | refine qAh ?_ | refine blk_alloc ?_ _)); refine qA0 (cs := #[.int .i64 ((rd_T25 l0_4 x31_2).f0), .bool ((rd_T25 l0_4 x31_2).f1), .int .i64 ((rd_T25 l0_4 x31_2).f2), .string ((rd_T25 l0_4 x31_2).f3), .slice none 0 0, .slice none 0 0]) ?_ 4 _ rfl; (with_reducible repeat (first | refine qAg ?_ _ | refine qAh ?_ | refine blk_alloc ?_ _)); refine qA0 (cs := #[.int .i64 ((rd_T25 l0_4 x31_2).f0), .bool ((rd_T25 l0_4 x31_2).f1), .int .i64 ((rd_T25 l0_4 x31_2).f2), .string (⟨#[]⟩ : ByteArray), .slice none 0 0, .slice none 0 0]) ?_ 3 _ rfl; (with_reducible repeat (first | refine qAg ?_ _ | refine qAh ?_ | refine blk_alloc ?_ _)); refine qA0 (cs := #[.int .i64 ((rd_T25 l0_4 x31_2).f0), .bool ((rd_T25 l0_4 x31_2).f1), .int .i64 0, .string (⟨#[]⟩ : ByteArray), .slice none 0 0, .slice none 0 0]) ?_ 2 _ rfl; (with_reducible repeat (first | refine qAg ?_ _ | refine qAh ?_ | refine blk_alloc ?_ _)); refine qA0 (cs := #[.int .i64 ((rd_T25 l0_4 x31_2).f0), .bool false, .int .i64 0, .string (⟨#[]⟩ : ByteArray), .slice none 0 0, .slice none 0 0]) ?_ 1 _ rfl; (with_reducible repeat (first | refine qAg ?_ _ | refine qAh ?_ | refine blk_alloc ?_ _)); refine qA0 (cs := #[.int .i64 0, .bool false, .int .i64 0, .string (⟨#[]⟩ : ByteArray), .slice none 0 0, .slice none 0 0]) ?_ 0 _ rfl; (with_reducible repeat (first | refine qAg ?_ _ | refine qAh ?_ | refine blk_alloc ?_ _)); exact BK142.out) hb); have n3_ := Aside0.mk (qAi (by repeat (first | (with_reducible first | exact HB.out | apply qAd | apply qAc | apply qAe | refine qAf ?_ GE136.out | refine qAf ?_ GE142.out) | exact HB.out)) hb); clear HO_3; clear BK136; clear BK142; clear HB; have HO_3 := n0_; have BK136 := n1_; have BK142 := n2_; have HB := n3_; clear n0_ n1_ n2_ n3_; (try clear hb); (try clear hb2); (try clear hk); (try clear hi); have hcz44_0 : w43.cell? ⟨gb136, 0, none⟩ = some (.int .i64 a0_0) := (qAb BK136.out 0).trans rfl; have hcz44_1 : w43.cell? ⟨gb136, 1, none⟩ = some (.bool a0_1) := (qAb BK136.out 1).trans rfl; have hcz44_2 : w43.cell? ⟨gb136, 2, none⟩ = some (.int .i64 a0_2) := (qAb BK136.out 2).trans rfl; have hcz44_3 : w43.cell? ⟨gb136, 3, none⟩ = some (.string a0_3) := (qAb BK136.out 3).trans rfl; have hcz44_4 : w43.cell? ⟨gb136, 4, none⟩ = some (.slice (some ad141) l0_4.length c0_4) := (qAb BK136.out 4).trans rfl; have hcz44_5 : w43.cell? ⟨gb136, 5, none⟩ = some (.slice A0_5 l0_5.length c0_5) := (qAb BK136.out 5).trans rfl; have hfz44_0 := qAa BK136.out 0; have hfz44_1 := qAa BK136.out 1; have hfz44_2 := qAa BK136.out 2; have hfz44_3 := qAa BK136.out 3; have hfz44_4 := qAa BK136.out 4; have hfz44_5 := qAa BK136.out 5) | ((with_reducible refine qBi (b := .append) (xs := #[.tmp 50, .tmp 52]) rfl ?_); at_builtin; refine Kd.R_append Kd.string (w0 := w) w.heap.size rfl (.tmp 50) (.tmp 52) 23 9 (.string ⟨#[]⟩) 16 rfl Tryd.underlying23 info9 rfl (by decide) (by omega) u3 x3_2 t143 [.string t143] (fun _ => True) (fun _ => False) rfl rfl ?aP (fun _ hk => hk.elim) ?aF ?aO ?aB ?aS ?aL ?_; (case aP => exact rfl); (case aB => exact (by repeat (first | (with_reducible first | exact HB.out | apply qAd | apply qAc | apply qAe | refine qAf ?_ GE136.out | refine qAf ?_ GE142.out) | exact HB.out))); (case aF => exact (fun _ _ => trivial)); (case aO => exact (by (with_reducible repeat (first | apply Kd.R_alloc | apply Kd.R_drewN | apply Kd.R_drew)); exact HO_3.out)); (case aS => exact (qAn (by repeat (first | (with_reducible first | exact HB.out | apply qAd | apply qAc | apply qAe | refine qAf ?_ GE136.out | refine qAf ?_ GE142.out) | exact HB.out)))); (case aL => have := LMc39.out; omega); intro v150 w45 ho hb hg hat; rw [← Ny149.out] at ho; have n0_ := Aside0.mk (qCk (g := gb136) (o := .cells #[.int .i64 a0_0, .bool a0_1, .int .i64 a0_2, .string a0_3, .slice (some ad141) l0_4.length c0_4, .slice A0_5 l0_5.length c0_5] 25 (0, 0)) (by (with_reducible repeat (first | refine qAg ?_ _ | refine qAh ?_ | refine blk_alloc ?_ _)); exact BK136.out) hg (Kd.R_ne HO_3.out BK136.out (by decide))); have n1_ := Aside0.mk (qCk (g := gb142) (o := .cells #[.int .i64 ((rd_T25 l0_4 x31_2).f0), .bool ((rd_T25 l0_4 x31_2).f1), .int .i64 ((rd_T25 l0_4 x31_2).f2), .string ((rd_T25 l0_4 x31_2).f3), .slice A141_4 ((rd_T25 l0_4 x31_2).f4).length c141_4, .slice A141_5 ((rd_T25 l0_4 x31_2).f5).length c141_5] 25 (0, 0)) (by (with_reducible repeat (first | refine qAg ?_ _ | refine qAh ?_ | refine blk_alloc ?_ _)); exact BK142.out) hg (Kd.R_ne HO_3.out BK142.out (by decide))); have n2_ := Aside0.mk (hb); have n3_ := Aside0.mk (ho); clear BK136; clear BK142; clear HB; clear HO_3; have BK136 := n0_; have BK142 := n1_; have HB := n2_; have HO151 := n3_; clear n0_ n1_ n2_ n3_; clear ho hb hg hat))
              go_roundg k2
              case measure => have := HJ15.out; have := HK2.out; omega
              case rel => exact ⟨(y149), (wrap64 (x31_2 + 1)), (by first | rfl | (simp; done) | (simp [*]; done) | exact congrArg Value.bool (nil_ne _) | exact congrArg Value.bool (nil_eq _) | exact congrArg Value.bool (nil_ne' _)), H', ⟨by have := HJ15.out; have := HK2.out; omega⟩, ⟨by (with_reducible repeat (first | apply Kd.R_alloc | apply Kd.R_drewN | apply Kd.R_drew)); exact HO151.out⟩, ⟨by (with_reducible repeat (first | refine qAg ?_ _ | refine qAh ?_ | refine blk_alloc ?_ _)); exact BK136.out⟩, ⟨by repeat (first | (with_reducible first | exact HB.out | apply qAd | apply qAc | apply qAe | refine qAf ?_ GE136.out | refine qAf ?_ GE142.out) | exact HB.out)⟩⟩
             ·rw [if_neg c39] at H
              exact absurd H (by simp)
           ·rw [if_neg c24] at H
            exact absurd H (by simp)
          ·rw [if_neg c23] at H
           exact absurd H (by simp)
         ·rw [if_neg c22] at H
          have c22b0 : decide (x31_2 < (l0_4.length : Int)) = false := decide_eq_false c22
          clear c22
          replace H := Option.bind_eq_some_iff.mp H
          obtain ⟨t140, A460, H⟩ := H
          replace H : (if a0_0 = 5 then (if 1 + t140.size ≤ 9223372036854775807 then (if ((⟨#[123]⟩ : ByteArray) ++ t140).size + 1 ≤ 9223372036854775807 then (some (((⟨#[123]⟩ : ByteArray) ++ t140) ++ (⟨#[125]⟩ : ByteArray))) else (none)) else (none)) else (if 1 + t140.size ≤ 9223372036854775807 then (if ((⟨#[91]⟩ : ByteArray) ++ t140).size + 1 ≤ 9223372036854775807 then (some (((⟨#[91]⟩ : ByteArray) ++ t140) ++ (⟨#[93]⟩ : ByteArray))) else (none)) else (none))) = some r := H
          have A46 := Aside0.mk A460
          clear A460
          by_cases c47 : a0_0 = 5
          ·rw [if_pos c47] at H
           have c47b0 : (a0_0 == 5) = true := beq_iff_eq.mpr c47
           have c47b1 : (a0_0 != 5) = false := bne_eq_false_iff_eq.mpr c47
           clear c47
           by_cases c48 : 1 + t140.size ≤ 9223372036854775807
           ·rw [if_pos c48] at H
            have c48b0 := eq_true c48
            have c48b1 : decide (1 + t140.size ≤ 9223372036854775807) = true := decide_eq_true c48
            try have c48b2 : (9223372036854775807 < 1 + t140.size) = False := eq_false (Nat.not_lt.2 c48)
            have Sc48 := Aside0.mk c48
            clear c48
            by_cases c49 : ((⟨#[123]⟩ : ByteArray) ++ t140).size + 1 ≤ 9223372036854775807
            ·rw [if_pos c49] at H
             have c49b0 := eq_true c49
             have c49b1 : decide (((⟨#[123]⟩ : ByteArray) ++ t140).size + 1 ≤ 9223372036854775807) = true := decide_eq_true c49
             try have c49b2 : (9223372036854775807 < ((⟨#[123]⟩ : ByteArray) ++ t140).size + 1) = False := eq_false (Nat.not_lt.2 c49)
             have Sc49 := Aside0.mk c49
             clear c49
             obtain rfl := Option.some.inj H
             obtain ⟨Ao50, co50, eo50⟩ := Kd.R_slice HO_3.out
             subst eo50
             go_wp2_with (first | ((with_reducible refine qAp (f := 68) rfl ?_); refine goesL_ (some 56) rfl rfl Tryd.func68 (by kernel_rfl) rfl #[.slice Ao50 x3_2.length co50, .string (⟨#[44]⟩ : ByteArray)] rfl (by (try simp only [List.map_toArray, List.map_cons, List.map_nil]); first | done | rfl | (simp only [List.length_drop, List.length_take]; rfl)) ?_; (with_reducible refine (strings_Join.calls _ _ x3_2 (⟨#[44]⟩ : ByteArray) t140 _ ?side1 ?side2 A46.out).mono ?_); (case side1 => repeat (first | exact (Kd.R_reads' HO_3.out).2.2 | (with_reducible refine Kd.C_alloc ?_ _) | (with_reducible refine Kd.C_drewN ?_ _) | (with_reducible refine Kd.C_drew ?_))); (case side2 => exact (Kd.R_reads' HO_3.out).2.1); rintro e w51 ⟨rfl, hb⟩; refine ⟨_, rfl, ?_⟩; have n0_ := Aside0.mk (Kd.R_below (by (with_reducible repeat (first | apply Kd.R_alloc | apply Kd.R_drewN | apply Kd.R_drew)); exact HO_3.out) hb); have n1_ := Aside0.mk (qAj (g := gb136) (o := .cells #[.int .i64 a0_0, .bool a0_1, .int .i64 a0_2, .string a0_3, .slice A0_4 l0_4.length c0_4, .slice A0_5 l0_5.length c0_5] 25 (0, 0)) (by (with_reducible repeat (first | refine qAg ?_ _ | refine qAh ?_ | refine blk_alloc ?_ _)); exact BK136.out) hb); have n2_ := Aside0.mk (qAi (by repeat (first | (with_reducible first | exact HB.out | apply qAd | apply qAc | apply qAe | refine qAf ?_ GE136.out) | exact HB.out)) hb); clear HO_3; clear BK136; clear HB; have HO_3 := n0_; have BK136 := n1_; have HB := n2_; clear n0_ n1_ n2_; (try clear hb); (try clear hb2); (try clear hk); (try clear hi); have hcz52_0 : w51.cell? ⟨gb136, 0, none⟩ = some (.int .i64 a0_0) := (qAb BK136.out 0).trans rfl; have hcz52_1 : w51.cell? ⟨gb136, 1, none⟩ = some (.bool a0_1) := (qAb BK136.out 1).trans rfl; have hcz52_2 : w51.cell? ⟨gb136, 2, none⟩ = some (.int .i64 a0_2) := (qAb BK136.out 2).trans rfl; have hcz52_3 : w51.cell? ⟨gb136, 3, none⟩ = some (.string a0_3) := (qAb BK136.out 3).trans rfl; have hcz52_4 : w51.cell? ⟨gb136, 4, none⟩ = some (.slice A0_4 l0_4.length c0_4) := (qAb BK136.out 4).trans rfl; have hcz52_5 : w51.cell? ⟨gb136, 5, none⟩ = some (.slice A0_5 l0_5.length c0_5) := (qAb BK136.out 5).trans rfl; have hfz52_0 := qAa BK136.out 0; have hfz52_1 := qAa BK136.out 1; have hfz52_2 := qAa BK136.out 2; have hfz52_3 := qAa BK136.out 3; have hfz52_4 := qAa BK136.out 4; have hfz52_5 := qAa BK136.out 5))
             try any_goals (exfalso; have h_ := Sc48.out; rename_i hb_; (try simp only [ByteArray.size_extract, ByteArray.size_append] at h_ hb_); (try simp only [ByteArray.size, List.size_toArray, List.length_cons, List.length_nil] at h_ hb_); omega)
             try any_goals (exfalso; have h_ := Sc49.out; rename_i hb_; (try simp only [ByteArray.size_extract, ByteArray.size_append] at h_ hb_); (try simp only [ByteArray.size, List.size_toArray, List.length_cons, List.length_nil] at h_ hb_); omega)
             go_ret
             exact ⟨by first | rfl | (simp [qAl, qAk] <;> rfl) | (simp [*, qAl, qAk] <;> rfl), by repeat (first | (with_reducible first | exact HB.out | apply qAd | apply qAc | apply qAe | refine qAf ?_ GE136.out) | exact HB.out)⟩
            ·rw [if_neg c49] at H
             exact absurd H (by simp)
           ·rw [if_neg c48] at H
            exact absurd H (by simp)
          ·rw [if_neg c47] at H
           have c47b0 : (a0_0 == 5) = false := beq_eq_false_iff_ne.mpr c47
           have c47b1 : (a0_0 != 5) = true := bne_iff_ne.mpr c47
           by_cases c53 : 1 + t140.size ≤ 9223372036854775807
           ·rw [if_pos c53] at H
            have c53b0 := eq_true c53
            have c53b1 : decide (1 + t140.size ≤ 9223372036854775807) = true := decide_eq_true c53
            try have c53b2 : (9223372036854775807 < 1 + t140.size) = False := eq_false (Nat.not_lt.2 c53)
            have Sc53 := Aside0.mk c53
            clear c53
            by_cases c54 : ((⟨#[91]⟩ : ByteArray) ++ t140).size + 1 ≤ 9223372036854775807
            ·rw [if_pos c54] at H
             have c54b0 := eq_true c54
             have c54b1 : decide (((⟨#[91]⟩ : ByteArray) ++ t140).size + 1 ≤ 9223372036854775807) = true := decide_eq_true c54
             try have c54b2 : (9223372036854775807 < ((⟨#[91]⟩ : ByteArray) ++ t140).size + 1) = False := eq_false (Nat.not_lt.2 c54)
             have Sc54 := Aside0.mk c54
             clear c54
             obtain rfl := Option.some.inj H
             obtain ⟨Ao55, co55, eo55⟩ := Kd.R_slice HO_3.out
             subst eo55
             go_wp2_with (first | ((with_reducible refine qAp (f := 68) rfl ?_); refine goesL_ (some 56) rfl rfl Tryd.func68 (by kernel_rfl) rfl #[.slice Ao55 x3_2.length co55, .string (⟨#[44]⟩ : ByteArray)] rfl (by (try simp only [List.map_toArray, List.map_cons, List.map_nil]); first | done | rfl | (simp only [List.length_drop, List.length_take]; rfl)) ?_; (with_reducible refine (strings_Join.calls _ _ x3_2 (⟨#[44]⟩ : ByteArray) t140 _ ?side1 ?side2 A46.out).mono ?_); (case side1 => repeat (first | exact (Kd.R_reads' HO_3.out).2.2 | (with_reducible refine Kd.C_alloc ?_ _) | (with_reducible refine Kd.C_drewN ?_ _) | (with_reducible refine Kd.C_drew ?_))); (case side2 => exact (Kd.R_reads' HO_3.out).2.1); rintro e w56 ⟨rfl, hb⟩; refine ⟨_, rfl, ?_⟩; have n0_ := Aside0.mk (Kd.R_below (by (with_reducible repeat (first | apply Kd.R_alloc | apply Kd.R_drewN | apply Kd.R_drew)); exact HO_3.out) hb); have n1_ := Aside0.mk (qAj (g := gb136) (o := .cells #[.int .i64 a0_0, .bool a0_1, .int .i64 a0_2, .string a0_3, .slice A0_4 l0_4.length c0_4, .slice A0_5 l0_5.length c0_5] 25 (0, 0)) (by (with_reducible repeat (first | refine qAg ?_ _ | refine qAh ?_ | refine blk_alloc ?_ _)); exact BK136.out) hb); have n2_ := Aside0.mk (qAi (by repeat (first | (with_reducible first | exact HB.out | apply qAd | apply qAc | apply qAe | refine qAf ?_ GE136.out) | exact HB.out)) hb); clear HO_3; clear BK136; clear HB; have HO_3 := n0_; have BK136 := n1_; have HB := n2_; clear n0_ n1_ n2_; (try clear hb); (try clear hb2); (try clear hk); (try clear hi); have hcz57_0 : w56.cell? ⟨gb136, 0, none⟩ = some (.int .i64 a0_0) := (qAb BK136.out 0).trans rfl; have hcz57_1 : w56.cell? ⟨gb136, 1, none⟩ = some (.bool a0_1) := (qAb BK136.out 1).trans rfl; have hcz57_2 : w56.cell? ⟨gb136, 2, none⟩ = some (.int .i64 a0_2) := (qAb BK136.out 2).trans rfl; have hcz57_3 : w56.cell? ⟨gb136, 3, none⟩ = some (.string a0_3) := (qAb BK136.out 3).trans rfl; have hcz57_4 : w56.cell? ⟨gb136, 4, none⟩ = some (.slice A0_4 l0_4.length c0_4) := (qAb BK136.out 4).trans rfl; have hcz57_5 : w56.cell? ⟨gb136, 5, none⟩ = some (.slice A0_5 l0_5.length c0_5) := (qAb BK136.out 5).trans rfl; have hfz57_0 := qAa BK136.out 0; have hfz57_1 := qAa BK136.out 1; have hfz57_2 := qAa BK136.out 2; have hfz57_3 := qAa BK136.out 3; have hfz57_4 := qAa BK136.out 4; have hfz57_5 := qAa BK136.out 5))
             try any_goals (exfalso; have h_ := Sc53.out; rename_i hb_; (try simp only [ByteArray.size_extract, ByteArray.size_append] at h_ hb_); (try simp only [ByteArray.size, List.size_toArray, List.length_cons, List.length_nil] at h_ hb_); omega)
             try any_goals (exfalso; have h_ := Sc54.out; rename_i hb_; (try simp only [ByteArray.size_extract, ByteArray.size_append] at h_ hb_); (try simp only [ByteArray.size, List.size_toArray, List.length_cons, List.length_nil] at h_ hb_); omega)
             go_ret
             exact ⟨by first | rfl | (simp [qAl, qAk] <;> rfl) | (simp [*, qAl, qAk] <;> rfl), by repeat (first | (with_reducible first | exact HB.out | apply qAd | apply qAc | apply qAe | refine qAf ?_ GE136.out) | exact HB.out)⟩
            ·rw [if_neg c54] at H
             exact absurd H (by simp)
           ·rw [if_neg c53] at H
            exact absurd H (by simp)
      ·replace c20 := Bool.eq_false_iff.mpr c20
       subst c20
       have H1 : (some (⟨#[110, 117, 108, 108]⟩ : ByteArray)) = some r := by rw [if_neg (show ¬ (false = true) by decide)] at H; exact H
       clear H
       have H := H1
       clear H1
       obtain rfl := Option.some.inj H
       go_wp2
       go_ret
       exact ⟨by first | rfl | (simp [qAl, qAk] <;> rfl) | (simp [*, qAl, qAk] <;> rfl), by repeat (first | (with_reducible first | exact HB.out | apply qAd | apply qAc | apply qAe | refine qAf ?_ GE136.out) | exact HB.out)⟩
end Go.Proofs.YtbnoihpooeombaaDoor.P

namespace Go.Proofs.YtbnoihpooeombaaDoor.P
open Go.Proofs.YtbnoihpooeombaaDoor.X
open Go.RowKit Go.Proofs.YtbnoihpooeombaaDoorW.PrintWords Go.Proofs.YtbnoihpooeombaaDoorW.PrintLast Go.Proofs.YtbnoihpooeombaaDoorW.PrintMore
attribute [local go_sem] qAr qAu
set_option linter.unusedVariables false
set_option linter.unusedSimpArgs false
def value_Lay.f (k : Nat) (a0_0 : Int) (a0_1 : Bool) (a0_2 : Int) (a0_3 : ByteArray) (l0_4 : List (S25)) (l0_5 : List ByteArray) : Option (ByteArray × Int) := (value_May.f a0_0 a0_1 a0_2 a0_3 l0_4 l0_5).bind fun t153 => (if t153 = true then ((value_text.f k a0_0 a0_1 a0_2 a0_3 l0_4 l0_5).bind fun t154 => (some (t154, 0))) else (some ((⟨#[]⟩ : ByteArray), 2)))
theorem value_Lay.mono : ∀ a0 a1 a2 a3 a4 a5 k, LeO (value_Lay.f k a0 a1 a2 a3 a4 a5) (value_Lay.f (k + 1) a0 a1 a2 a3 a4 a5) := by
 intro a0 a1 a2 a3 a4 a5 k
 unfold value_Lay.f
 repeat' first
   | (with_reducible exact value_text.mono _ _ _ _ _ _ _)
   | (with_reducible exact LeO.refl _)
   | (with_reducible exact LeO.none _)
   | (with_reducible refine LeO.ite ?_ ?_)
   | (with_reducible refine LeO.bind ?_ (fun _ => ?_))
   | exact value_text.mono _ _ _ _ _ _ _
   | exact LeO.none _
   | refine LeO.ite ?_ ?_
   | refine LeO.bind ?_ (fun _ => ?_)
set_option maxHeartbeats 8000000 in
set_option maxRecDepth 100000 in
theorem value_Lay.calls (k : Nat) (a0_0 : Int) (a0_1 : Bool) (a0_2 : Int) (a0_3 : ByteArray) (A0_4 : Option Addr) (c0_4 : Nat) (l0_4 : List (S25)) (A0_5 : Option Addr) (c0_5 : Nat) (l0_5 : List ByteArray) (r1 : ByteArray) (r2 : Int) (w : World) (hT : Aside0 (Tabs w)) (hr0_4 : Kd.C k25 w A0_4 l0_4.length l0_4) (hc0_4 : l0_4.length ≤ c0_4) (hr0_5 : Kd.C Kd.string w A0_5 l0_5.length l0_5) (hc0_5 : l0_5.length ≤ c0_5) (h : value_Lay.f k a0_0 a0_1 a0_2 a0_3 l0_4 l0_5 = some (r1, r2)) :
  Calls Tryd.prog 16 #[.agg #[.int .i64 a0_0, .bool a0_1, .int .i64 a0_2, .string a0_3, .slice A0_4 l0_4.length c0_4, .slice A0_5 l0_5.length c0_5]] w fun e w' => e = .returned (.tuple #[.string r1, .int .i64 r2]) ∧ Below w.heap.size w w' := by
 have hu25 := Tryd.underlying25
 have HR0_4 := Aside0.mk hr0_4
 have HC0_4 := Aside0.mk hc0_4
 clear hr0_4 hc0_4
 have HR0_5 := Aside0.mk hr0_5
 have HC0_5 := Aside0.mk hc0_5
 clear hr0_5 hc0_5
 have HB := Aside0.mk (Below.refl w.heap.size w)
 have H : ((value_May.f a0_0 a0_1 a0_2 a0_3 l0_4 l0_5).bind fun t153 => (if t153 = true then ((value_text.f k a0_0 a0_1 a0_2 a0_3 l0_4 l0_5).bind fun t154 => (some (t154, 0))) else (some ((⟨#[]⟩ : ByteArray), 2)))) = some (r1, r2) := h
 clear h
 replace H := Option.bind_eq_some_iff.mp H
 obtain ⟨t153, A20, H⟩ := H
 replace H : (if t153 = true then ((value_text.f k a0_0 a0_1 a0_2 a0_3 l0_4 l0_5).bind fun t154 => (some (t154, 0))) else (some ((⟨#[]⟩ : ByteArray), 2))) = some (r1, r2) := H
 have A2 := Aside0.mk A20
 clear A20
 by_cases c3 : t153 = true
 ·subst c3
  have H1 : ((value_text.f k a0_0 a0_1 a0_2 a0_3 l0_4 l0_5).bind fun t154 => (some (t154, 0))) = some (r1, r2) := by rw [if_pos rfl] at H; exact H
  clear H
  have H := H1
  clear H1
  replace H := Option.bind_eq_some_iff.mp H
  obtain ⟨t154, A40, H⟩ := H
  replace H : (some (t154, 0)) = some (r1, r2) := H
  have A4 := Aside0.mk A40
  clear A40
  simp only [Option.some.injEq, Prod.mk.injEq] at H
  obtain ⟨rfl, rfl⟩ := H
  go_enter Tryd.func16, Tryd.ntmps16
  go_wp2_with (first | ((with_reducible refine qAy (N := 1) rfl ?_); refine qA1 ?hg (N := 1) ?hd (cs := #[.int .i64 a0_0, .bool a0_1, .int .i64 a0_2, .string a0_3, .slice A0_4 l0_4.length c0_4, .slice A0_5 l0_5.length c0_5]) (t := 25) ?hr ?_; (case hd => rfl); (case hg => rfl); (case hr => first | (go_simp; done) | (go_simp; rfl)); intro gb152 hg w5 hbox hb; have n0_ := Aside0.mk (qAi (by repeat (first | (with_reducible first | exact HB.out | apply qAd | apply qAc | apply qAe) | exact HB.out)) hb); have n1_ := Aside0.mk (hbox); have n2_ := Aside0.mk ((by rw [hg]; exact (qAn (by repeat (first | (with_reducible first | exact HB.out | apply qAd | apply qAc | apply qAe) | exact HB.out))) : w.heap.size ≤ gb152)); have n3_ := Aside0.mk ((by rw [hg]; exact (qAn (by repeat (first | (with_reducible first | exact HB.out | apply qAd | apply qAc | apply qAe) | exact HB.out))) : w.heap.size ≤ gb152)); clear HB; have HB := n0_; have BK152 := n1_; have GW152 := n2_; have GE152 := n3_; clear n0_ n1_ n2_ n3_; clear hb hbox hg; have hcz6_0 : w5.cell? ⟨gb152, 0, none⟩ = some (.int .i64 a0_0) := (qAb BK152.out 0).trans rfl; have hcz6_1 : w5.cell? ⟨gb152, 1, none⟩ = some (.bool a0_1) := (qAb BK152.out 1).trans rfl; have hcz6_2 : w5.cell? ⟨gb152, 2, none⟩ = some (.int .i64 a0_2) := (qAb BK152.out 2).trans rfl; have hcz6_3 : w5.cell? ⟨gb152, 3, none⟩ = some (.string a0_3) := (qAb BK152.out 3).trans rfl; have hcz6_4 : w5.cell? ⟨gb152, 4, none⟩ = some (.slice A0_4 l0_4.length c0_4) := (qAb BK152.out 4).trans rfl; have hcz6_5 : w5.cell? ⟨gb152, 5, none⟩ = some (.slice A0_5 l0_5.length c0_5) := (qAb BK152.out 5).trans rfl; have hfz6_0 := qAa BK152.out 0; have hfz6_1 := qAa BK152.out 1; have hfz6_2 := qAa BK152.out 2; have hfz6_3 := qAa BK152.out 3; have hfz6_4 := qAa BK152.out 4; have hfz6_5 := qAa BK152.out 5) | ((with_reducible refine qAp (f := 21) rfl ?_); refine goesL_ (some 5) rfl rfl Tryd.func21 (by kernel_rfl) rfl #[.agg #[.int .i64 a0_0, .bool a0_1, .int .i64 a0_2, .string a0_3, .slice A0_4 l0_4.length c0_4, .slice A0_5 l0_5.length c0_5]] rfl (by (try simp only [List.map_toArray, List.map_cons, List.map_nil]); first | done | rfl | (simp only [List.length_drop, List.length_take]; rfl)) ?_; (with_reducible refine (value_May.calls a0_0 a0_1 a0_2 a0_3 _ _ l0_4 _ _ l0_5 true _ ?side1 ?side2 ?side3 ?side4 A2.out).mono ?_); (case side1 => repeat (first | exact (Kd.C_below HR0_4.out HB.out) | (with_reducible refine Kd.C_alloc ?_ _) | (with_reducible refine Kd.C_drewN ?_ _) | (with_reducible refine Kd.C_drew ?_))); (case side2 => exact HC0_4.out); (case side3 => repeat (first | exact (Kd.C_below HR0_5.out HB.out) | (with_reducible refine Kd.C_alloc ?_ _) | (with_reducible refine Kd.C_drewN ?_ _) | (with_reducible refine Kd.C_drew ?_))); (case side4 => exact HC0_5.out); rintro e w7 ⟨rfl, hb⟩; refine ⟨_, rfl, ?_⟩; have n0_ := Aside0.mk (qAj (g := gb152) (o := .cells #[.int .i64 a0_0, .bool a0_1, .int .i64 a0_2, .string a0_3, .slice A0_4 l0_4.length c0_4, .slice A0_5 l0_5.length c0_5] 25 (0, 0)) (by (with_reducible repeat (first | refine qAg ?_ _ | refine qAh ?_ | refine blk_alloc ?_ _)); exact BK152.out) hb); have n1_ := Aside0.mk (qAi (by repeat (first | (with_reducible first | exact HB.out | apply qAd | apply qAc | apply qAe | refine qAf ?_ GE152.out) | exact HB.out)) hb); clear BK152; clear HB; have BK152 := n0_; have HB := n1_; clear n0_ n1_; (try clear hb); (try clear hb2); (try clear hk); (try clear hi); have hcz8_0 : w7.cell? ⟨gb152, 0, none⟩ = some (.int .i64 a0_0) := (qAb BK152.out 0).trans rfl; have hcz8_1 : w7.cell? ⟨gb152, 1, none⟩ = some (.bool a0_1) := (qAb BK152.out 1).trans rfl; have hcz8_2 : w7.cell? ⟨gb152, 2, none⟩ = some (.int .i64 a0_2) := (qAb BK152.out 2).trans rfl; have hcz8_3 : w7.cell? ⟨gb152, 3, none⟩ = some (.string a0_3) := (qAb BK152.out 3).trans rfl; have hcz8_4 : w7.cell? ⟨gb152, 4, none⟩ = some (.slice A0_4 l0_4.length c0_4) := (qAb BK152.out 4).trans rfl; have hcz8_5 : w7.cell? ⟨gb152, 5, none⟩ = some (.slice A0_5 l0_5.length c0_5) := (qAb BK152.out 5).trans rfl; have hfz8_0 := qAa BK152.out 0; have hfz8_1 := qAa BK152.out 1; have hfz8_2 := qAa BK152.out 2; have hfz8_3 := qAa BK152.out 3; have hfz8_4 := qAa BK152.out 4; have hfz8_5 := qAa BK152.out 5) | ((with_reducible refine qAp (f := 47) rfl ?_); refine goesL_ (some 8) rfl rfl Tryd.func47 (by kernel_rfl) rfl #[.agg #[.int .i64 a0_0, .bool a0_1, .int .i64 a0_2, .string a0_3, .slice A0_4 l0_4.length c0_4, .slice A0_5 l0_5.length c0_5]] rfl (by (try simp only [List.map_toArray, List.map_cons, List.map_nil]); first | done | rfl | (simp only [List.length_drop, List.length_take]; rfl)) ?_; (with_reducible refine (value_text.calls k a0_0 a0_1 a0_2 a0_3 _ _ l0_4 _ _ l0_5 t154 _ ?side1 ?side2 ?side3 ?side4 ?side5 A4.out).mono ?_); (case side1 => exact ⟨Tabs.below hT.out (by repeat (first | (with_reducible first | exact HB.out | apply qAd | apply qAc | apply qAe | refine qAf ?_ GE152.out) | exact HB.out))⟩); (case side2 => repeat (first | exact (Kd.C_below HR0_4.out HB.out) | (with_reducible refine Kd.C_alloc ?_ _) | (with_reducible refine Kd.C_drewN ?_ _) | (with_reducible refine Kd.C_drew ?_))); (case side3 => exact HC0_4.out); (case side4 => repeat (first | exact (Kd.C_below HR0_5.out HB.out) | (with_reducible refine Kd.C_alloc ?_ _) | (with_reducible refine Kd.C_drewN ?_ _) | (with_reducible refine Kd.C_drew ?_))); (case side5 => exact HC0_5.out); rintro e w9 ⟨rfl, hb⟩; refine ⟨_, rfl, ?_⟩; have n0_ := Aside0.mk (qAj (g := gb152) (o := .cells #[.int .i64 a0_0, .bool a0_1, .int .i64 a0_2, .string a0_3, .slice A0_4 l0_4.length c0_4, .slice A0_5 l0_5.length c0_5] 25 (0, 0)) (by (with_reducible repeat (first | refine qAg ?_ _ | refine qAh ?_ | refine blk_alloc ?_ _)); exact BK152.out) hb); have n1_ := Aside0.mk (qAi (by repeat (first | (with_reducible first | exact HB.out | apply qAd | apply qAc | apply qAe | refine qAf ?_ GE152.out) | exact HB.out)) hb); clear BK152; clear HB; have BK152 := n0_; have HB := n1_; clear n0_ n1_; (try clear hb); (try clear hb2); (try clear hk); (try clear hi)))
  go_ret2
  exact ⟨by first | rfl | (simp [qAl, qAk] <;> rfl) | (simp [*, qAl, qAk] <;> rfl), by repeat (first | (with_reducible first | exact HB.out | apply qAd | apply qAc | apply qAe | refine qAf ?_ GE152.out) | exact HB.out)⟩
 ·replace c3 := Bool.eq_false_iff.mpr c3
  subst c3
  have H1 : (some ((⟨#[]⟩ : ByteArray), 2)) = some (r1, r2) := by rw [if_neg (show ¬ (false = true) by decide)] at H; exact H
  clear H
  have H := H1
  clear H1
  simp only [Option.some.injEq, Prod.mk.injEq] at H
  obtain ⟨rfl, rfl⟩ := H
  go_enter Tryd.func16, Tryd.ntmps16
  go_wp2_with (first | ((with_reducible refine qAy (N := 1) rfl ?_); refine qA1 ?hg (N := 1) ?hd (cs := #[.int .i64 a0_0, .bool a0_1, .int .i64 a0_2, .string a0_3, .slice A0_4 l0_4.length c0_4, .slice A0_5 l0_5.length c0_5]) (t := 25) ?hr ?_; (case hd => rfl); (case hg => rfl); (case hr => first | (go_simp; done) | (go_simp; rfl)); intro gb152 hg w10 hbox hb; have n0_ := Aside0.mk (qAi (by repeat (first | (with_reducible first | exact HB.out | apply qAd | apply qAc | apply qAe) | exact HB.out)) hb); have n1_ := Aside0.mk (hbox); have n2_ := Aside0.mk ((by rw [hg]; exact (qAn (by repeat (first | (with_reducible first | exact HB.out | apply qAd | apply qAc | apply qAe) | exact HB.out))) : w.heap.size ≤ gb152)); have n3_ := Aside0.mk ((by rw [hg]; exact (qAn (by repeat (first | (with_reducible first | exact HB.out | apply qAd | apply qAc | apply qAe) | exact HB.out))) : w.heap.size ≤ gb152)); clear HB; have HB := n0_; have BK152 := n1_; have GW152 := n2_; have GE152 := n3_; clear n0_ n1_ n2_ n3_; clear hb hbox hg; have hcz11_0 : w10.cell? ⟨gb152, 0, none⟩ = some (.int .i64 a0_0) := (qAb BK152.out 0).trans rfl; have hcz11_1 : w10.cell? ⟨gb152, 1, none⟩ = some (.bool a0_1) := (qAb BK152.out 1).trans rfl; have hcz11_2 : w10.cell? ⟨gb152, 2, none⟩ = some (.int .i64 a0_2) := (qAb BK152.out 2).trans rfl; have hcz11_3 : w10.cell? ⟨gb152, 3, none⟩ = some (.string a0_3) := (qAb BK152.out 3).trans rfl; have hcz11_4 : w10.cell? ⟨gb152, 4, none⟩ = some (.slice A0_4 l0_4.length c0_4) := (qAb BK152.out 4).trans rfl; have hcz11_5 : w10.cell? ⟨gb152, 5, none⟩ = some (.slice A0_5 l0_5.length c0_5) := (qAb BK152.out 5).trans rfl; have hfz11_0 := qAa BK152.out 0; have hfz11_1 := qAa BK152.out 1; have hfz11_2 := qAa BK152.out 2; have hfz11_3 := qAa BK152.out 3; have hfz11_4 := qAa BK152.out 4; have hfz11_5 := qAa BK152.out 5) | ((with_reducible refine qAp (f := 21) rfl ?_); refine goesL_ (some 5) rfl rfl Tryd.func21 (by kernel_rfl) rfl #[.agg #[.int .i64 a0_0, .bool a0_1, .int .i64 a0_2, .string a0_3, .slice A0_4 l0_4.length c0_4, .slice A0_5 l0_5.length c0_5]] rfl (by (try simp only [List.map_toArray, List.map_cons, List.map_nil]); first | done | rfl | (simp only [List.length_drop, List.length_take]; rfl)) ?_; (with_reducible refine (value_May.calls a0_0 a0_1 a0_2 a0_3 _ _ l0_4 _ _ l0_5 false _ ?side1 ?side2 ?side3 ?side4 A2.out).mono ?_); (case side1 => repeat (first | exact (Kd.C_below HR0_4.out HB.out) | (with_reducible refine Kd.C_alloc ?_ _) | (with_reducible refine Kd.C_drewN ?_ _) | (with_reducible refine Kd.C_drew ?_))); (case side2 => exact HC0_4.out); (case side3 => repeat (first | exact (Kd.C_below HR0_5.out HB.out) | (with_reducible refine Kd.C_alloc ?_ _) | (with_reducible refine Kd.C_drewN ?_ _) | (with_reducible refine Kd.C_drew ?_))); (case side4 => exact HC0_5.out); rintro e w12 ⟨rfl, hb⟩; refine ⟨_, rfl, ?_⟩; have n0_ := Aside0.mk (qAj (g := gb152) (o := .cells #[.int .i64 a0_0, .bool a0_1, .int .i64 a0_2, .string a0_3, .slice A0_4 l0_4.length c0_4, .slice A0_5 l0_5.length c0_5] 25 (0, 0)) (by (with_reducible repeat (first | refine qAg ?_ _ | refine qAh ?_ | refine blk_alloc ?_ _)); exact BK152.out) hb); have n1_ := Aside0.mk (qAi (by repeat (first | (with_reducible first | exact HB.out | apply qAd | apply qAc | apply qAe | refine qAf ?_ GE152.out) | exact HB.out)) hb); clear BK152; clear HB; have BK152 := n0_; have HB := n1_; clear n0_ n1_; (try clear hb); (try clear hb2); (try clear hk); (try clear hi)))
  go_ret2
  exact ⟨by first | rfl | (simp [qAl, qAk] <;> rfl) | (simp [*, qAl, qAk] <;> rfl), by repeat (first | (with_reducible first | exact HB.out | apply qAd | apply qAc | apply qAe | refine qAf ?_ GE152.out) | exact HB.out)⟩
end Go.Proofs.YtbnoihpooeombaaDoor.P

namespace Go.Proofs.YtbnoihpooeombaaDoor.X
open Go.RowKit Go.Proofs.YtbnoihpooeombaaDoorW.PrintWords Go.Proofs.YtbnoihpooeombaaDoor.P
set_option linter.unusedVariables false
set_option linter.unusedSimpArgs false
theorem qGo : ∀ ps : List (List Int), Lib.join (ps.map (·.map u8)) [44] = (joinC 44 ps).map u8
  | [] => rfl
  | [x] => by simp [Lib.join_one, joinC]
  | x :: y :: l => by
    have ih := qGo (y :: l)
    have e : Lib.join ((x :: y :: l).map (·.map u8)) [44] = x.map u8 ++ [44] ++ Lib.join ((y :: l).map (·.map u8)) [44] := by
      simp [Lib.join, List.intercalate]
    rw [e, ih, joinC, List.map_append, List.map_cons, List.append_assoc]
    rfl
theorem qHb (ps : List (List Int)) : joinB (ps.map strOfNums) ⟨#[44]⟩ = strOfNums (joinC 44 ps) := by
  unfold joinB
  rw [qBf, ← qGo, List.map_map]
  rfl
theorem qBx (l : List Int) : (strOfNums l).size = l.length := by rw [qBf, qF8, List.length_map]
theorem qCm (a b : List Int) : strOfNums a ++ strOfNums b = strOfNums (a ++ b) := by
  rw [qBf, qBf, qBf, qGz, List.map_append]
theorem qF5 (s : ByteArray) : strOfNums (qAz s) = s := qEq s
theorem qB1 (c : Int) : ∀ (l : List (List Int)) (p : List Int), p ∈ l → p.length ≤ (joinC c l).length
  | [], p, h => by cases h
  | [x], p, h => by have : p = x := by simpa using h
                    subst this; simp [joinC]
  | x :: y :: l, p, h => by
    simp only [joinC, List.length_append, List.length_cons]
    rcases List.mem_cons.1 h with rfl | h
    · omega
    · have := qB1 c (y :: l) p h; omega
theorem qF3 (d : Nat) (x : S25) (hs : okV (d + 1) x) (o : Bool) (ho : o = true ↔ x.f0 = 5) (hl : (joinC 44 (qAq (textI d) o x.f4 x.f5)).length + 2 ≤ 140737488355000)
    (hc : ∀ y ∈ x.f4, (textI d y).length ≤ 140737488355000 → Ev (fun k => value_text.f k y.f0 y.f1 y.f2 y.f3 y.f4 y.f5) (textB d y)) :
    ∀ (j i : Nat), x.f4.length - i = j → i ≤ x.f4.length → Ev (fun k => value_text.l0 k (((qAq (textI d) o x.f4 x.f5).take i).map strOfNums) x.f4 (x.f4.length : Int) (i : Int) x.f0 x.f1 x.f2 x.f3 x.f4 x.f5) (strOfNums ((if o then 123 else 91) :: (joinC 44 (qAq (textI d) o x.f4 x.f5) ++ [if o then 125 else 93]))) := by
  obtain ⟨hk0, hk5, hn0, hn1, hs3, hs4, hs5, hsk, hkl, hse⟩ := hs
  have hpl := qCp (textI d) o x.f4 x.f5
  intro j
  induction j with
  | zero =>
    intro i hj hi
    refine ⟨1, fun k hk => ?_⟩
    obtain ⟨k, rfl⟩ : ∃ m, k = m + 1 := ⟨k - 1, by omega⟩
    simp only [value_text.l0]
    have hJ : strings_Join.f ((qAq (textI d) o x.f4 x.f5).map strOfNums) ⟨#[44]⟩ = some (strOfNums (joinC 44 (qAq (textI d) o x.f4 x.f5))) := by
      unfold strings_Join.f
      rw [qHb, if_pos ⟨by rw [qBx]; omega, by rw [List.length_map, hpl]; omega⟩]
    rw [if_neg (by omega), List.take_of_length_le (by omega), hJ]
    simp only [Option.bind_some]
    have e1 : (⟨#[123]⟩ : ByteArray) = strOfNums [123] := rfl
    have e2 : (⟨#[125]⟩ : ByteArray) = strOfNums [125] := rfl
    have e3 : (⟨#[91]⟩ : ByteArray) = strOfNums [91] := rfl
    have e4 : (⟨#[93]⟩ : ByteArray) = strOfNums [93] := rfl
    by_cases c : x.f0 = 5
    · rw [if_pos c, e1, e2, qCm, qCm, qBx, qBx, if_pos (by omega), if_pos (by simp; omega), ho.2 c]
      rfl
    · have : o = false := by cases o with
        | false => rfl
        | true => exact absurd (ho.1 rfl) c
      rw [if_neg c, e3, e4, qCm, qCm, qBx, qBx, if_pos (by omega), if_pos (by simp; omega), this]
      rfl
  | succ j ih =>
    intro i hj hi
    have hlt : i < x.f4.length := by omega
    have hkey : o = true → i < x.f5.length := fun h => by have := hkl (ho.1 h); omega
    have hpg := qCq (textI d) o i x.f4 x.f5 hlt hkey
    have hlt2 : i < (qAq (textI d) o x.f4 x.f5).length := by omega
    have hpe : (qAq (textI d) o x.f4 x.f5)[i] = (if ho : o = true then quoteL (x.f5[i]'(hkey ho)) ++ 58 :: textI d x.f4[i] else textI d x.f4[i]) := by
      rw [List.getElem?_eq_getElem hlt2] at hpg; exact Option.some.inj hpg
    have hpm := qB1 44 _ _ (List.getElem_mem hlt2)
    have htk : (qAq (textI d) o x.f4 x.f5).take (i + 1) = (qAq (textI d) o x.f4 x.f5).take i ++ [(qAq (textI d) o x.f4 x.f5)[i]] := (List.take_append_getElem hlt2).symm
    have hlen : (textI d x.f4[i]).length ≤ ((qAq (textI d) o x.f4 x.f5)[i]).length := by
      rw [hpe]
      split
      · simp only [List.length_append, List.length_cons]; omega
      · omega
    obtain ⟨K1, hK1⟩ := hc x.f4[i] (List.getElem_mem hlt) (by omega)
    obtain ⟨K2, hK2⟩ := ih (i + 1) (by omega) (by omega)
    have E3 : Aside0 (wrap64 ((i : Int) + 1) = ((i + 1 : Nat) : Int)) := ⟨qBn (by omega) (by omega)⟩
    have hacc : (((qAq (textI d) o x.f4 x.f5).take i).map strOfNums).length < 8796093022208 := by rw [List.length_map, List.length_take]; omega
    by_cases c : x.f0 = 5
    · have hot := ho.2 c
      have hk := hkey hot
      obtain ⟨K3, hK3⟩ := qFe (x.f5[i]'hk) (by have := hsk _ (List.getElem_mem hk); omega)
      refine ⟨K1 + K2 + K3 + 1, fun k hk' => ?_⟩
      obtain ⟨k, rfl⟩ : ∃ m, k = m + 1 := ⟨k - 1, by omega⟩
      have hK1 := hK1 k (by omega)
      have hK2 := hK2 k (by omega)
      have hK3 := hK3 k (by omega)
      simp only at hK1 hK2 hK3
      simp only [value_text.l0]
      rw [if_pos (by omega), if_pos (by omega), if_pos (by omega), qB5 x.f4 i hlt, hK1]
      simp only [Option.bind_some]
      rw [if_pos c, if_pos (by omega), qAx x.f5 i hk, hK3]
      simp only [Option.bind_some]
      have e1 : (⟨#[58]⟩ : ByteArray) = strOfNums [58] := rfl
      have e2 : quoteB (x.f5[i]'hk) ++ (⟨#[58]⟩ : ByteArray) ++ textB d x.f4[i] = strOfNums ((qAq (textI d) o x.f4 x.f5)[i]) := by
        rw [hpe, dif_pos hot, quoteB, textB, e1, qCm, qCm]
        simp
      have hq : (quoteB (x.f5[i]'hk)).size + 1 + (textB d x.f4[i]).size ≤ 140737488355000 := by
        have := congrArg ByteArray.size e2
        rw [ByteArray.size_append, ByteArray.size_append, qBx] at this
        have e5 : (⟨#[58]⟩ : ByteArray).size = 1 := rfl
        omega
      rw [if_pos (by omega), if_pos (by rw [ByteArray.size_append]; have e5 : (⟨#[58]⟩ : ByteArray).size = 1 := rfl; omega), if_pos hacc, e2, E3.out]
      rw [htk, List.map_append] at hK2
      exact hK2
    · have hof : o = false := by cases o with
        | false => rfl
        | true => exact absurd (ho.1 rfl) c
      refine ⟨K1 + K2 + 1, fun k hk' => ?_⟩
      obtain ⟨k, rfl⟩ : ∃ m, k = m + 1 := ⟨k - 1, by omega⟩
      have hK1 := hK1 k (by omega)
      have hK2 := hK2 k (by omega)
      simp only at hK1 hK2
      simp only [value_text.l0]
      rw [if_pos (by omega), if_pos (by omega), if_pos (by omega), qB5 x.f4 i hlt, hK1]
      simp only [Option.bind_some]
      rw [if_neg c, if_pos hacc, E3.out]
      have e2 : textB d x.f4[i] = strOfNums ((qAq (textI d) o x.f4 x.f5)[i]) := by
        rw [hpe, dif_neg (by simp [hof]), textB]
      rw [e2]
      rw [htk, List.map_append] at hK2
      exact hK2
theorem qHk : ∀ (d : Nat) (x : S25), okV d x → (textI d x).length ≤ 140737488355000 → Ev (fun k => value_text.f k x.f0 x.f1 x.f2 x.f3 x.f4 x.f5) (textB d x) := by
  intro d
  induction d with
  | zero => intro x h; exact h.elim
  | succ d ih =>
    intro x hs hl
    have hs' := hs
    obtain ⟨hk0, hk5, hn0, hn1, hs3, hs4, hs5, hsk, hkl, hse⟩ := hs
    have hcase : x.f0 = 0 ∨ x.f0 = 1 ∨ x.f0 = 2 ∨ x.f0 = 3 ∨ x.f0 = 4 ∨ x.f0 = 5 := by omega
    have hch : ∀ y ∈ x.f4, (textI d y).length ≤ 140737488355000 → Ev (fun k => value_text.f k y.f0 y.f1 y.f2 y.f3 y.f4 y.f5) (textB d y) := fun y hy h => ih y (hse y hy) h
    rcases hcase with h | h | h | h | h | h
    · refine ⟨2, fun k hk => ?_⟩
      obtain ⟨k, rfl⟩ : ∃ m, k = m + 2 := ⟨k - 2, by omega⟩
      simp only [value_text.f]
      rw [if_neg (by omega), if_neg (by omega), if_neg (by omega), if_neg (by omega), h]
      simp only [value_text.j0]
      rw [if_neg (by decide), textB, textI, if_pos h]
      rfl
    · refine ⟨2, fun k hk => ?_⟩
      obtain ⟨k, rfl⟩ : ∃ m, k = m + 2 := ⟨k - 2, by omega⟩
      simp only [value_text.f]
      rw [if_pos h, textB, textI, if_neg (by omega), if_pos h]
      cases x.f1 <;> rfl
    · refine ⟨2, fun k hk => ?_⟩
      obtain ⟨k, rfl⟩ : ∃ m, k = m + 2 := ⟨k - 2, by omega⟩
      simp only [value_text.f]
      rw [if_neg (by omega), if_pos h, textB, textI, if_neg (by omega), if_neg (by omega), if_pos h, qF5, strconv_Itoa.f, if_pos (by omega)]
      rfl
    · obtain ⟨K, hK⟩ := qFe x.f3 (by omega)
      refine ⟨K + 2, fun k hk => ?_⟩
      obtain ⟨k, rfl⟩ : ∃ m, k = m + 1 := ⟨k - 1, by omega⟩
      have hK := hK k (by omega)
      simp only at hK
      simp only [value_text.f]
      rw [if_neg (by omega), if_neg (by omega), if_pos h, hK, textB, textI, if_neg (by omega), if_neg (by omega), if_neg (by omega), if_pos h]
      rfl
    · have ht : textI (d + 1) x = 91 :: (joinC 44 (qAq (textI d) false x.f4 x.f5) ++ [93]) := by
        rw [textI, if_neg (by omega), if_neg (by omega), if_neg (by omega), if_neg (by omega), if_neg (by omega)]
      rw [ht] at hl
      simp only [List.length_cons, List.length_append, List.length_nil] at hl
      obtain ⟨K, hK⟩ := qF3 d x hs' false (by simp [h]) (by omega) hch x.f4.length 0 (by omega) (by omega)
      refine ⟨K + 2, fun k hk => ?_⟩
      obtain ⟨k, rfl⟩ : ∃ m, k = m + 2 := ⟨k - 2, by omega⟩
      have hK := hK k (by omega)
      simp only [value_text.f]
      rw [if_neg (by omega), if_neg (by omega), if_neg (by omega), if_pos h]
      simp only [value_text.j0]
      rw [if_pos (by simp [h]), textB, ht]
      exact hK
    · have ht : textI (d + 1) x = 123 :: (joinC 44 (qAq (textI d) true x.f4 x.f5) ++ [125]) := by
        rw [textI, if_neg (by omega), if_neg (by omega), if_neg (by omega), if_neg (by omega), if_pos h]
      rw [ht] at hl
      simp only [List.length_cons, List.length_append, List.length_nil] at hl
      obtain ⟨K, hK⟩ := qF3 d x hs' true (by simp [h]) (by omega) hch x.f4.length 0 (by omega) (by omega)
      refine ⟨K + 2, fun k hk => ?_⟩
      obtain ⟨k, rfl⟩ : ∃ m, k = m + 2 := ⟨k - 2, by omega⟩
      have hK := hK k (by omega)
      simp only [value_text.f]
      rw [if_neg (by omega), if_neg (by omega), if_neg (by omega), if_neg (by omega)]
      simp only [value_text.j0]
      rw [if_pos (by simp [h]), textB, ht]
      exact hK
end Go.Proofs.YtbnoihpooeombaaDoor.X

namespace Go.Proofs.YtbnoihpooeombaaDoor.X
open Go.RowKit Go.Proofs.YtbnoihpooeombaaDoorW.PrintWords Go.Proofs.YtbnoihpooeombaaDoor.P
set_option linter.unusedVariables false
set_option linter.unusedSimpArgs false
theorem qB2 {x : S25} (h : qA5 x = true) : 0 ≤ x.f0 ∧ x.f0 ≤ 5 ∧ -9007199254740992 ≤ x.f2 ∧ x.f2 ≤ 9007199254740992 ∧ (x.f0 = 5 → x.f5.length = x.f4.length) ∧ (x.f0 ≠ 1 → x.f1 = false) ∧ (x.f0 ≠ 2 → x.f2 = 0) ∧ (x.f0 ≠ 3 → x.f3.size = 0) ∧ (x.f0 ≠ 4 → x.f0 ≠ 5 → x.f4 = []) ∧ (x.f0 ≠ 5 → x.f5 = []) ∧ qAv x.f5 = true := by
  rw [qEj] at h
  unfold plainB at h
  simp only [Bool.and_eq_true, Bool.or_eq_true, decide_eq_true_eq, beq_iff_eq, bne_iff_ne, Bool.not_eq_true', List.isEmpty_iff] at h
  obtain ⟨⟨⟨⟨⟨h1, h2⟩, h3⟩, h4⟩, h5⟩, h6, h7, h8, h9, h10, h11⟩ := h
  refine ⟨h6, h7, h8, h9, fun e => h10.resolve_left (fun h => h e), fun e => h1.resolve_left e, fun e => h2.resolve_left e, fun e => h3.resolve_left e, fun e e' => (h4.resolve_left (fun h => h.elim e e')), fun e => h5.resolve_left e, h11⟩
theorem qB7 {d : Nat} {x : S25} (h : goodV (d + 1) x = true) : qA5 x = true ∧ ∀ y ∈ x.f4, goodV d y = true := by
  rw [goodV, Bool.and_eq_true, List.all_eq_true] at h
  exact h
theorem qDl : ∀ (d D n : Nat) (x : S25), T D n x → n ≤ 100000 → goodV d x = true → okV d x
  | 0, D, n, x, _, _, h => by simp [goodV] at h
  | d + 1, 0, n, x, hT, _, _ => hT.1.elim
  | d + 1, D + 1, n, x, hT, hn, h => by
    obtain ⟨h1, h2⟩ := qB7 h
    have hf := qB2 h1
    have hl := hT.len
    exact ⟨hf.1, hf.2.1, hf.2.2.1, hf.2.2.2.1, by have := hT.1.1; omega, by omega, by omega, fun s hs => by have := hT.1.2.2.1 s hs; omega, hf.2.2.2.2.1, fun y hy => qDl d D n y (hT.child hy) hn (h2 y hy)⟩
theorem qHc (n : Int) (h0 : -9007199254740992 ≤ n) (h1 : n ≤ 9007199254740992) : (qAz (itoaB n)).length ≤ 21 := by
  rw [qBs, itoaB, qF8]
  exact Lib.itoa_length_le n (by omega) (by omega)
theorem qEc (s : ByteArray) : (quoteL s).length ≤ 6 * s.size + 2 := by
  unfold quoteL
  rw [List.length_cons, List.length_append, List.length_singleton]
  have := qGs (qAz s)
  rw [qBs] at this
  omega
theorem qEi (c : Int) : ∀ l : List (List Int), (joinC c l).length ≤ (l.map (fun p => p.length + 1)).sum
  | [] => by simp [joinC]
  | [x] => by simp [joinC]
  | x :: y :: l => by
    have := qEi c (y :: l)
    simp only [joinC, List.map_cons, List.sum_cons, List.length_append, List.length_cons] at this ⊢
    omega
theorem qCo (f : S25 → List Int) (m : S25 → Nat) (o : Bool) : ∀ (l : List S25) (ks : List ByteArray), (∀ s ∈ ks, s.size ≤ 100) → (∀ y ∈ l, (f y).length + 604 ≤ 1300 * m y) → ((qAq f o l ks).map (fun p => p.length + 1)).sum ≤ 1300 * (l.map m).sum
  | [], ks, _, _ => by simp [qAq]
  | x :: l, [], hk, hf => by
    have := qCo f m o l [] hk (fun y hy => hf y (List.mem_cons_of_mem _ hy))
    have h2 := hf x (List.mem_cons_self ..)
    simp only [qAq, List.map_cons, List.sum_cons]
    omega
  | x :: l, k :: ks, hk, hf => by
    have := qCo f m o l ks (fun s hs => hk s (List.mem_cons_of_mem _ hs)) (fun y hy => hf y (List.mem_cons_of_mem _ hy))
    have h2 := hf x (List.mem_cons_self ..)
    have h3 := qEc k
    have h4 := hk k (List.mem_cons_self ..)
    simp only [qAq, List.map_cons, List.sum_cons]
    cases o
    · simp only [Bool.false_eq_true, if_false]; omega
    · simp only [if_true, List.length_append, List.length_cons]; omega
theorem qDg : ∀ (d D : Nat) (x : S25), tameD D x → goodV d x = true → (textI d x).length + 604 ≤ 1300 * nodesV d x
  | 0, D, x, _, h => by simp [goodV] at h
  | d + 1, 0, x, ht, _ => ht.elim
  | d + 1, D + 1, x, ht, h => by
    obtain ⟨h1, h2⟩ := qB7 h
    have hf := qB2 h1
    have hi := qHc x.f2 hf.2.2.1 hf.2.2.2.1
    have hq := qEc x.f3
    have h3 := ht.1
    have hp := fun o => qCo (textI d) (nodesV d) o x.f4 x.f5 ht.2.2.1 (fun y hy => qDg d D y (ht.2.2.2 y hy) (h2 y hy))
    have hj := fun o => qEi 44 (qAq (textI d) o x.f4 x.f5)
    have hp1 := hp true
    have hp2 := hp false
    have hj1 := hj true
    have hj2 := hj false
    rw [nodesV, textI]
    clear hp hj
    split
    · simp; omega
    · split
      · split <;> simp <;> omega
      · split
        · omega
        · split
          · omega
          · split
            · simp only [List.length_cons, List.length_append, List.length_nil]; omega
            · simp only [List.length_cons, List.length_append, List.length_nil]; omega
end Go.Proofs.YtbnoihpooeombaaDoor.X

namespace Go.Proofs.YtbnoihpooeombaaDoor.P
open Go.Proofs.YtbnoihpooeombaaDoor.X
open Go.RowKit Go.Proofs.YtbnoihpooeombaaDoorW.PrintWords Go.Proofs.YtbnoihpooeombaaDoorW.PrintLast Go.Proofs.YtbnoihpooeombaaDoorW.PrintMore
attribute [local go_sem] qAr qAu
set_option linter.unusedVariables false
set_option linter.unusedSimpArgs false
def hogsheadref15_Same.f (k : Nat) (a0_0 : Int) (a0_1 : Bool) (a0_2 : Int) (a0_3 : ByteArray) (l0_4 : List (S25)) (l0_5 : List ByteArray) (a1_0 : Int) (a1_1 : Bool) (a1_2 : Int) (a1_3 : ByteArray) (l1_4 : List (S25)) (l1_5 : List ByteArray) : Option (Bool) := (hogsheadref15_Lay.f k a0_0 a0_1 a0_2 a0_3 l0_4 l0_5).bind fun bt208 => ((hogsheadref15_Lay.f k a1_0 a1_1 a1_2 a1_3 l1_4 l1_5).bind fun bt210 => (if bt208.2 = 0 then (if bt210.2 = 0 then (some (bt208.1.toList == bt210.1.toList)) else (some false)) else (some false)))
end Go.Proofs.YtbnoihpooeombaaDoor.P

namespace Go.Proofs.YtbnoihpooeombaaDoor.X
open Go.RowKit Go.Proofs.YtbnoihpooeombaaDoorW.PrintWords Go.Proofs.YtbnoihpooeombaaDoor.P
set_option linter.unusedVariables false
set_option linter.unusedSimpArgs false
theorem text_1 (d : Nat) (x : S25) (h : x.f0 = 1) : textI (d + 1) x = if x.f1 then [116, 114, 117, 101] else [102, 97, 108, 115, 101] := by rw [textI, if_neg (by omega), if_pos h]
theorem text_2 (d : Nat) (x : S25) (h : x.f0 = 2) : textI (d + 1) x = qAz (itoaB x.f2) := by rw [textI, if_neg (by omega), if_neg (by omega), if_pos h]
theorem text_4 (d : Nat) (x : S25) (h : x.f0 = 4) : textI (d + 1) x = 91 :: (joinC 44 (x.f4.map (textI d)) ++ [93]) := by rw [textI, if_neg (by omega), if_neg (by omega), if_neg (by omega), if_neg (by omega), if_neg (by omega), qCa]
theorem text_5 (d : Nat) (x : S25) (h : x.f0 = 5) : textI (d + 1) x = 123 :: (joinC 44 (qAq (textI d) true x.f4 x.f5) ++ [125]) := by rw [textI, if_neg (by omega), if_neg (by omega), if_neg (by omega), if_neg (by omega), if_pos h]
theorem qDk (f : S25 → List Int) : ∀ (l : List S25) (ks : List ByteArray), ks.length = l.length → qAq f true l ks = (ks.zip l).map (fun p => quoteL p.1 ++ 58 :: f p.2)
  | [], ks, _ => by simp [qAq]
  | x :: l, [], h => by simp at h
  | x :: l, k :: ks, h => by simp [qAq, qDk f l ks (by simpa using h)]
theorem qHj {D : Nat} {x : S25} (hT : T D 4000 x) (h : goodV 16 x = true) : (textI 16 x).length ≤ 140737488355000 := by
  have h1 := qDg 16 D x hT.1 h
  rw [qDn x h hT.1] at h1
  have := hT.2
  omega
theorem qDu {D : Nat} {x : S25} (hT : T D 4000 x) : value_May.f x.f0 x.f1 x.f2 x.f3 x.f4 x.f5 = some (goodV 16 x) := congrArg some (qB0 D x hT)
theorem qGn {D : Nat} {x : S25} (hT : T D 4000 x) : Ev (fun k => value_Lay.f k x.f0 x.f1 x.f2 x.f3 x.f4 x.f5) (if goodV 16 x = true then (textB 16 x, 0) else (⟨#[]⟩, 2)) := by
  cases h : goodV 16 x with
  | true =>
    obtain ⟨K, hK⟩ := qHk 16 x (qDl 16 D 4000 x hT (by omega) h) (qHj hT h)
    refine ⟨K, fun k hk => ?_⟩
    have hK := hK k hk
    simp only at hK
    show value_Lay.f k _ _ _ _ _ _ = _
    unfold value_Lay.f
    rw [qDu hT, h]
    simp only [Option.bind_some]
    rw [if_pos trivial, hK]
    rfl
  | false =>
    refine ⟨0, fun k hk => ?_⟩
    show value_Lay.f k _ _ _ _ _ _ = _
    unfold value_Lay.f
    rw [qDu hT, h]
    rfl
theorem qDb (f : S25 → S25 → Bool) : ∀ l m, (∀ a ∈ l, ∀ b, f a b = true ↔ a = b) → (allEq f l m = true ↔ l = m)
  | [], [], _ => by simp [allEq]
  | [], _ :: _, _ => by simp [allEq]
  | _ :: _, [], _ => by simp [allEq]
  | x :: l, y :: m, h => by
    rw [allEq, Bool.and_eq_true, h x (List.mem_cons_self ..), qDb f l m (fun a ha => h a (List.mem_cons_of_mem _ ha)), List.cons.injEq]
theorem qD8 : ∀ d a b, goodV d a = true → (sameV d a b = true ↔ a = b)
  | 0, a, b, h => by simp [goodV] at h
  | d + 1, a, b, h => by
    have hg := (qB7 h).2
    rw [sameV]
    simp only [Bool.and_eq_true, beq_iff_eq, decide_eq_true_eq]
    rw [qDb (sameV d) a.f4 b.f4 (fun x hx y => qD8 d x y (hg x hx)), qBd]
    cases a; cases b
    simp only [S25.mk.injEq]
    constructor
    · rintro ⟨h0, h1, h2, h3, h5, h4⟩; exact ⟨h0, h1, h2, h3, h4, h5⟩
    · rintro ⟨h0, h1, h2, h3, h4, h5⟩; exact ⟨h0, h1, h2, h3, h5, h4⟩
def sameB (a b : S25) : Bool := goodV 16 a && (goodV 16 b && sameV 16 a b)
theorem qG4 {D E : Nat} {a b : S25} (ha : T D 4000 a) (hb : T E 4000 b) : value_Same.f a.f0 a.f1 a.f2 a.f3 a.f4 a.f5 b.f0 b.f1 b.f2 b.f3 b.f4 b.f5 = some (sameB a b) := by
  show some ((mayV 16 a 0).2 && ((mayV 16 b 0).2 && sameV 16 a b)) = some _
  rw [qB0 D a ha, qB0 E b hb]
  rfl
end Go.Proofs.YtbnoihpooeombaaDoor.X

namespace Go.Proofs.YtbnoihpooeombaaDoor.P
open Go.Proofs.YtbnoihpooeombaaDoor.X
open Go.RowKit Go.Proofs.YtbnoihpooeombaaDoorW.PrintWords Go.Proofs.YtbnoihpooeombaaDoorW.PrintLast Go.Proofs.YtbnoihpooeombaaDoorW.PrintMore
attribute [local go_sem] qAr qAu
set_option linter.unusedVariables false
set_option linter.unusedSimpArgs false
def cmp_isNaN_string.f (a0 : ByteArray) : Option (Bool) := some (a0.toList != a0.toList)
set_option maxHeartbeats 8000000 in
set_option maxRecDepth 100000 in
theorem cmp_isNaN_string.calls (a0 : ByteArray) (r : Bool) (w : World) (h : cmp_isNaN_string.f a0 = some r) :
  Calls Tryd.prog 98 #[.string a0] w fun e w' => e = .returned (.bool r) ∧ Drawn0 w w' := by
 have H : (some (a0.toList != a0.toList)) = some r := h
 clear h
 obtain rfl := Option.some.inj H
 go_enter Tryd.func98, Tryd.ntmps98
 go_wp2
 go_ret
 exact ⟨by first | rfl | (simp; done) | (simp [*]; done), by repeat (first | exact Drawn0.refl _ | apply Drawn0.step)⟩
end Go.Proofs.YtbnoihpooeombaaDoor.P

namespace Go.Proofs.YtbnoihpooeombaaDoor.P
open Go.Proofs.YtbnoihpooeombaaDoor.X
open Go.RowKit Go.Proofs.YtbnoihpooeombaaDoorW.PrintWords Go.Proofs.YtbnoihpooeombaaDoorW.PrintLast Go.Proofs.YtbnoihpooeombaaDoorW.PrintMore
attribute [local go_sem] qAr qAu
set_option linter.unusedVariables false
set_option linter.unusedSimpArgs false
def cmp_Less_string.f (a0 : ByteArray) (a1 : ByteArray) : Option (Bool) := (cmp_isNaN_string.f a0).bind fun t544 => (if t544 = true then ((cmp_isNaN_string.f a1).bind fun t545 => (if t545 = true then (some (Op.bytesLess a0.toList a1.toList)) else (some true))) else (some (Op.bytesLess a0.toList a1.toList)))
set_option maxHeartbeats 8000000 in
set_option maxRecDepth 100000 in
theorem cmp_Less_string.calls (a0 : ByteArray) (a1 : ByteArray) (r : Bool) (w : World) (h : cmp_Less_string.f a0 a1 = some r) :
  Calls Tryd.prog 70 #[.string a0, .string a1] w fun e w' => e = .returned (.bool r) ∧ Drawn0 w w' := by
 have H : ((cmp_isNaN_string.f a0).bind fun t544 => (if t544 = true then ((cmp_isNaN_string.f a1).bind fun t545 => (if t545 = true then (some (Op.bytesLess a0.toList a1.toList)) else (some true))) else (some (Op.bytesLess a0.toList a1.toList)))) = some r := h
 clear h
 replace H := Option.bind_eq_some_iff.mp H
 obtain ⟨t544, A30, H⟩ := H
 replace H : (if t544 = true then ((cmp_isNaN_string.f a1).bind fun t545 => (if t545 = true then (some (Op.bytesLess a0.toList a1.toList)) else (some true))) else (some (Op.bytesLess a0.toList a1.toList))) = some r := H
 have A3 := Aside0.mk A30
 clear A30
 by_cases c4 : t544 = true
 ·subst c4
  have H1 : ((cmp_isNaN_string.f a1).bind fun t545 => (if t545 = true then (some (Op.bytesLess a0.toList a1.toList)) else (some true))) = some r := by rw [if_pos rfl] at H; exact H
  clear H
  have H := H1
  clear H1
  replace H := Option.bind_eq_some_iff.mp H
  obtain ⟨t545, A50, H⟩ := H
  replace H : (if t545 = true then (some (Op.bytesLess a0.toList a1.toList)) else (some true)) = some r := H
  have A5 := Aside0.mk A50
  clear A50
  by_cases c6 : t545 = true
  ·subst c6
   have H1 : (some (Op.bytesLess a0.toList a1.toList)) = some r := by rw [if_pos rfl] at H; exact H
   clear H
   have H := H1
   clear H1
   obtain rfl := Option.some.inj H
   go_enter Tryd.func70, Tryd.ntmps70
   go_wp2_with (first | ((with_reducible refine qAp (f := 98) rfl ?_); refine goesL_ (some 6) rfl rfl Tryd.func98 (by kernel_rfl) rfl #[.string a0] rfl (by (try simp only [List.map_toArray, List.map_cons, List.map_nil]); first | done | rfl | (simp only [List.length_drop, List.length_take]; rfl)) ?_; (with_reducible refine (cmp_isNaN_string.calls a0 true _ A3.out).mono ?_); rintro e w' ⟨rfl, ⟨nd, rfl⟩⟩; refine ⟨_, rfl, ?_⟩) | (go_at_call 98; (with_reducible refine (cmp_isNaN_string.calls a1 true _ A5.out).mono ?_); rintro e w' ⟨rfl, ⟨nd, rfl⟩⟩))
   go_ret
   exact ⟨by first | rfl | (simp; done) | (simp [*]; done), by repeat (first | exact Drawn0.refl _ | apply Drawn0.step)⟩
  ·replace c6 := Bool.eq_false_iff.mpr c6
   subst c6
   have H1 : (some true) = some r := by rw [if_neg (show ¬ (false = true) by decide)] at H; exact H
   clear H
   have H := H1
   clear H1
   obtain rfl := Option.some.inj H
   go_enter Tryd.func70, Tryd.ntmps70
   go_wp2_with (first | ((with_reducible refine qAp (f := 98) rfl ?_); refine goesL_ (some 6) rfl rfl Tryd.func98 (by kernel_rfl) rfl #[.string a0] rfl (by (try simp only [List.map_toArray, List.map_cons, List.map_nil]); first | done | rfl | (simp only [List.length_drop, List.length_take]; rfl)) ?_; (with_reducible refine (cmp_isNaN_string.calls a0 true _ A3.out).mono ?_); rintro e w' ⟨rfl, ⟨nd, rfl⟩⟩; refine ⟨_, rfl, ?_⟩) | (go_at_call 98; (with_reducible refine (cmp_isNaN_string.calls a1 false _ A5.out).mono ?_); rintro e w' ⟨rfl, ⟨nd, rfl⟩⟩))
   go_ret
   exact ⟨by first | rfl | (simp; done) | (simp [*]; done), by repeat (first | exact Drawn0.refl _ | apply Drawn0.step)⟩
 ·replace c4 := Bool.eq_false_iff.mpr c4
  subst c4
  have H1 : (some (Op.bytesLess a0.toList a1.toList)) = some r := by rw [if_neg (show ¬ (false = true) by decide)] at H; exact H
  clear H
  have H := H1
  clear H1
  obtain rfl := Option.some.inj H
  go_enter Tryd.func70, Tryd.ntmps70
  go_wp2_with (first | ((with_reducible refine qAp (f := 98) rfl ?_); refine goesL_ (some 6) rfl rfl Tryd.func98 (by kernel_rfl) rfl #[.string a0] rfl (by (try simp only [List.map_toArray, List.map_cons, List.map_nil]); first | done | rfl | (simp only [List.length_drop, List.length_take]; rfl)) ?_; (with_reducible refine (cmp_isNaN_string.calls a0 false _ A3.out).mono ?_); rintro e w' ⟨rfl, ⟨nd, rfl⟩⟩; refine ⟨_, rfl, ?_⟩))
  go_ret
  exact ⟨by first | rfl | (simp; done) | (simp [*]; done), by repeat (first | exact Drawn0.refl _ | apply Drawn0.step)⟩
end Go.Proofs.YtbnoihpooeombaaDoor.P

namespace Go.Proofs.YtbnoihpooeombaaDoor.P
open Go.Proofs.YtbnoihpooeombaaDoor.X
open Go.RowKit Go.Proofs.YtbnoihpooeombaaDoorW.PrintWords Go.Proofs.YtbnoihpooeombaaDoorW.PrintLast Go.Proofs.YtbnoihpooeombaaDoorW.PrintMore
attribute [local go_sem] qAr qAu
set_option linter.unusedVariables false
set_option linter.unusedSimpArgs false
def slices_isNaN_string.f (a0 : ByteArray) : Option (Bool) := some (a0.toList != a0.toList)
set_option maxHeartbeats 8000000 in
set_option maxRecDepth 100000 in
theorem slices_isNaN_string.calls (a0 : ByteArray) (r : Bool) (w : World) (h : slices_isNaN_string.f a0 = some r) :
  Calls Tryd.prog 71 #[.string a0] w fun e w' => e = .returned (.bool r) ∧ Drawn0 w w' := by
 have H : (some (a0.toList != a0.toList)) = some r := h
 clear h
 obtain rfl := Option.some.inj H
 go_enter Tryd.func71, Tryd.ntmps71
 go_wp2
 go_ret
 exact ⟨by first | rfl | (simp; done) | (simp [*]; done), by repeat (first | exact Drawn0.refl _ | apply Drawn0.step)⟩
end Go.Proofs.YtbnoihpooeombaaDoor.P

namespace Go.Proofs.YtbnoihpooeombaaDoor.P
open Go.Proofs.YtbnoihpooeombaaDoor.X
open Go.RowKit Go.Proofs.YtbnoihpooeombaaDoorW.PrintWords Go.Proofs.YtbnoihpooeombaaDoorW.PrintLast Go.Proofs.YtbnoihpooeombaaDoorW.PrintMore
attribute [local go_sem] qAr qAu
set_option linter.unusedVariables false
set_option linter.unusedSimpArgs false
def slices_BinarySearch_string_string.l0 : Nat → List ByteArray → ByteArray → Int → Int → Int → Option (Int × Bool)
 | 0, _, _, _, _, _ => none
 | k + 1, x0, x1, x6, x7, x8 => if x7 < x8 then (if 0 ≤ (wrap64 ((IntKind.u64.wrap (wrap64 (x7 + x8))) / 2)) then (if (wrap64 ((IntKind.u64.wrap (wrap64 (x7 + x8))) / 2)) < (x0.length : Int) then ((cmp_Less_string.f (rdOf ByteArray.empty x0 (wrap64 ((IntKind.u64.wrap (wrap64 (x7 + x8))) / 2))) x1).bind fun t547 => (if t547 = true then (slices_BinarySearch_string_string.l0 k x0 x1 x6 (wrap64 ((wrap64 ((IntKind.u64.wrap (wrap64 (x7 + x8))) / 2)) + 1)) x8) else (slices_BinarySearch_string_string.l0 k x0 x1 x6 x7 (wrap64 ((IntKind.u64.wrap (wrap64 (x7 + x8))) / 2))))) else (none)) else (none)) else (if x7 < x6 then (if 0 ≤ x7 then (if x7 < (x0.length : Int) then (if (rdOf ByteArray.empty x0 x7).toList = x1.toList then (some (x7, true)) else ((slices_isNaN_string.f (rdOf ByteArray.empty x0 x7)).bind fun t550 => (if t550 = true then ((slices_isNaN_string.f x1).bind fun t551 => (some (x7, t551))) else (some (x7, false))))) else (none)) else (none)) else (some (x7, false)))
def slices_BinarySearch_string_string.f (k : Nat) (l0 : List ByteArray) (a1 : ByteArray) : Option (Int × Bool) := slices_BinarySearch_string_string.l0 k l0 a1 (l0.length : Int) 0 (l0.length : Int)
theorem slices_BinarySearch_string_string.mono_l : ∀ k, (∀ y0 y1 y2 y3 y4, LeO (slices_BinarySearch_string_string.l0 k y0 y1 y2 y3 y4) (slices_BinarySearch_string_string.l0 (k + 1) y0 y1 y2 y3 y4))
 | 0 => fun _ _ _ _ _ r h => by simp [slices_BinarySearch_string_string.l0] at h
 | k + 1 => by
  have ih0 := slices_BinarySearch_string_string.mono_l k
  ·intro y0 y1 y2 y3 y4
   unfold slices_BinarySearch_string_string.l0
   repeat' first
   | (with_reducible exact ih0 _ _ _ _ _)
   | (with_reducible exact LeO.refl _)
   | (with_reducible exact LeO.none _)
   | (with_reducible refine LeO.ite ?_ ?_)
   | (with_reducible refine LeO.bind ?_ (fun _ => ?_))
   | exact ih0 _ _ _ _ _
   | exact LeO.none _
   | refine LeO.ite ?_ ?_
   | refine LeO.bind ?_ (fun _ => ?_)
theorem slices_BinarySearch_string_string.mono : ∀ a0 a1 k, LeO (slices_BinarySearch_string_string.f k a0 a1) (slices_BinarySearch_string_string.f (k + 1) a0 a1) := by
 intro a0 a1 k
 have ih0 := slices_BinarySearch_string_string.mono_l k
 unfold slices_BinarySearch_string_string.f
 repeat' first
   | (with_reducible exact ih0 _ _ _ _ _)
   | (with_reducible exact LeO.refl _)
   | (with_reducible exact LeO.none _)
   | (with_reducible refine LeO.ite ?_ ?_)
   | (with_reducible refine LeO.bind ?_ (fun _ => ?_))
   | exact ih0 _ _ _ _ _
   | exact LeO.none _
   | refine LeO.ite ?_ ?_
   | refine LeO.bind ?_ (fun _ => ?_)
set_option maxHeartbeats 8000000 in
set_option maxRecDepth 100000 in
theorem slices_BinarySearch_string_string.calls (k : Nat) (A0 : Option Addr) (c0 : Nat) (l0 : List ByteArray) (a1 : ByteArray) (r1 : Int) (r2 : Bool) (w : World) (hr0 : Kd.C Kd.string w A0 l0.length l0) (hc0 : l0.length ≤ c0) (h : slices_BinarySearch_string_string.f k l0 a1 = some (r1, r2)) :
  Calls Tryd.prog 49 #[.slice A0 l0.length c0, .string a1] w fun e w' => e = .returned (.tuple #[.int .i64 r1, .bool r2]) ∧ Drawn0 w w' := by
 have HR0 := Aside0.mk hr0
 have HC0 := Aside0.mk hc0
 clear hr0 hc0
 have H : (slices_BinarySearch_string_string.l0 k l0 a1 (l0.length : Int) 0 (l0.length : Int)) = some (r1, r2) := h
 clear h
 have H' := Aside0.mk H
 clear H
 go_enter Tryd.func49, Tryd.ntmps49
 go_wp2
 go_loopg [7, 8] k (fun kq v7 v8 w' => ∃ (x7_1 : Int) (x8_1 : Int), v7 = .int .i64 x7_1 ∧ v8 = .int .i64 x8_1 ∧ Aside0 (slices_BinarySearch_string_string.l0 kq l0 a1 (l0.length : Int) x7_1 x8_1 = some (r1, r2)) ∧ Aside0 (kq ≤ k) ∧ Drawn0 w w')
 case atStart => exact ⟨(0), ((l0.length : Int)), (by first | rfl | (simp; done) | (simp [*]; done) | exact congrArg Value.bool (nil_ne _) | exact congrArg Value.bool (nil_eq _) | exact congrArg Value.bool (nil_ne' _)), (by first | rfl | (simp; done) | (simp [*]; done) | exact congrArg Value.bool (nil_ne _) | exact congrArg Value.bool (nil_eq _) | exact congrArg Value.bool (nil_ne' _)), H', ⟨Nat.le_refl _⟩, by repeat (first | exact Drawn0.refl _ | apply Drawn0.step)⟩
 case round =>
  clear H'
  try clear p2
  obtain ⟨x7_1, x8_1, rfl, rfl, HA, HK1, ⟨m1, rfl⟩⟩ := hrel
  cases gk with
  | zero => exact absurd HA.out (by simp [slices_BinarySearch_string_string.l0])
  | succ k1 =>
   have H := HA.out
   clear HA
   simp only [slices_BinarySearch_string_string.l0] at H
   by_cases c3 : x7_1 < x8_1
   ·rw [if_pos c3] at H
    have c3b0 : decide (x7_1 < x8_1) = true := decide_eq_true c3
    clear c3
    obtain ⟨ji4, hji4⟩ : ∃ j_ : Int, (wrap64 ((IntKind.u64.wrap (wrap64 (x7_1 + x8_1))) / 2)) = j_ := ⟨_, rfl⟩
    replace H : (if 0 ≤ (ji4) then (if (ji4) < (l0.length : Int) then ((cmp_Less_string.f (rdOf ByteArray.empty l0 (ji4)) a1).bind fun t547 => (if t547 = true then (slices_BinarySearch_string_string.l0 k1 l0 a1 (l0.length : Int) (wrap64 ((ji4) + 1)) x8_1) else (slices_BinarySearch_string_string.l0 k1 l0 a1 (l0.length : Int) x7_1 ji4))) else (none)) else (none)) = some (r1, r2) := by first | (rw [hji4] at H; exact H) | (simp only [hji4] at H ⊢; exact H)
    have hji4w : (IntKind.i64.wrap ((IntKind.u64.wrap (wrap64 (x7_1 + x8_1))) / 2)) = ji4 := (i64_w _).trans hji4
    by_cases c5 : 0 ≤ (ji4)
    ·rw [if_pos c5] at H
     have c5b0 : decide (0 ≤ (ji4)) = true := decide_eq_true c5
     clear c5
     by_cases c6 : (ji4) < (l0.length : Int)
     ·rw [if_pos c6] at H
      have c6b0 : decide ((ji4) < (l0.length : Int)) = true := decide_eq_true c6
      clear c6
      replace H := Option.bind_eq_some_iff.mp H
      obtain ⟨t547, A70, H⟩ := H
      replace H : (if t547 = true then (slices_BinarySearch_string_string.l0 k1 l0 a1 (l0.length : Int) (wrap64 ((ji4) + 1)) x8_1) else (slices_BinarySearch_string_string.l0 k1 l0 a1 (l0.length : Int) x7_1 ji4)) = some (r1, r2) := H
      have A7 := Aside0.mk A70
      clear A70
      by_cases c8 : t547 = true
      ·subst c8
       have H1 : (slices_BinarySearch_string_string.l0 k1 l0 a1 (l0.length : Int) (wrap64 ((ji4) + 1)) x8_1) = some (r1, r2) := by rw [if_pos rfl] at H; exact H
       clear H
       have H := H1
       clear H1
       have H' := Aside0.mk H
       clear H
       have p546 : 0 ≤ ((ji4) : Int) := of_decide_eq_true (by first | (with_reducible assumption) | assumption)
       have q546 : (ji4) < (l0.length : Int) := of_decide_eq_true (by first | (with_reducible assumption) | assumption)
       obtain ⟨ad546, e546, hx546_0⟩ := Kd.at_string HR0.out (ji4) p546 q546
       cases e546
       replace p546 := eq_true p546
       replace q546 := eq_true q546
       go_wp2_with (first | ((with_reducible refine qAp (f := 70) rfl ?_); refine goesL_ (some 27) rfl rfl Tryd.func70 (by kernel_rfl) rfl #[.string (rdOf ByteArray.empty l0 (ji4)), .string a1] rfl (by (try simp only [List.map_toArray, List.map_cons, List.map_nil]); first | done | (simp only [hji4]; rfl) | rfl | (simp only [List.length_drop, List.length_take]; rfl)) ?_; (with_reducible refine (cmp_Less_string.calls (rdOf ByteArray.empty l0 (ji4)) a1 true _ A7.out).mono ?_); rintro e w' ⟨rfl, ⟨nd, rfl⟩⟩; refine ⟨_, rfl, ?_⟩))
       go_roundg k1
       case measure => have := HK1.out; omega
       case rel => exact ⟨(wrap64 ((ji4) + 1)), (x8_1), (by first | rfl | (simp; done) | (simp only [← hji4] <;> (first | rfl | simp)) | (simp [*]; done)), (by first | rfl | (simp; done) | (simp [*]; done) | exact congrArg Value.bool (nil_ne _) | exact congrArg Value.bool (nil_eq _) | exact congrArg Value.bool (nil_ne' _)), H', ⟨by have := HK1.out; omega⟩, by repeat (first | exact Drawn0.refl _ | apply Drawn0.step)⟩
      ·replace c8 := Bool.eq_false_iff.mpr c8
       subst c8
       have H1 : (slices_BinarySearch_string_string.l0 k1 l0 a1 (l0.length : Int) x7_1 ji4) = some (r1, r2) := by rw [if_neg (show ¬ (false = true) by decide)] at H; exact H
       clear H
       have H := H1
       clear H1
       have H' := Aside0.mk H
       clear H
       have p546 : 0 ≤ ((ji4) : Int) := of_decide_eq_true (by first | (with_reducible assumption) | assumption)
       have q546 : (ji4) < (l0.length : Int) := of_decide_eq_true (by first | (with_reducible assumption) | assumption)
       obtain ⟨ad546, e546, hx546_0⟩ := Kd.at_string HR0.out (ji4) p546 q546
       cases e546
       replace p546 := eq_true p546
       replace q546 := eq_true q546
       go_wp2_with (first | ((with_reducible refine qAp (f := 70) rfl ?_); refine goesL_ (some 27) rfl rfl Tryd.func70 (by kernel_rfl) rfl #[.string (rdOf ByteArray.empty l0 (ji4)), .string a1] rfl (by (try simp only [List.map_toArray, List.map_cons, List.map_nil]); first | done | (simp only [hji4]; rfl) | rfl | (simp only [List.length_drop, List.length_take]; rfl)) ?_; (with_reducible refine (cmp_Less_string.calls (rdOf ByteArray.empty l0 (ji4)) a1 false _ A7.out).mono ?_); rintro e w' ⟨rfl, ⟨nd, rfl⟩⟩; refine ⟨_, rfl, ?_⟩))
       go_roundg k1
       case measure => have := HK1.out; omega
       case rel => exact ⟨(x7_1), (ji4), (by first | rfl | (simp; done) | (simp [*]; done) | exact congrArg Value.bool (nil_ne _) | exact congrArg Value.bool (nil_eq _) | exact congrArg Value.bool (nil_ne' _)), (by first | rfl | (simp; done) | (simp only [← hji4] <;> (first | rfl | simp)) | (simp [*]; done)), H', ⟨by have := HK1.out; omega⟩, by repeat (first | exact Drawn0.refl _ | apply Drawn0.step)⟩
     ·rw [if_neg c6] at H
      exact absurd H (by simp)
    ·rw [if_neg c5] at H
     exact absurd H (by simp)
   ·rw [if_neg c3] at H
    have c3b0 : decide (x7_1 < x8_1) = false := decide_eq_false c3
    clear c3
    by_cases c9 : x7_1 < (l0.length : Int)
    ·rw [if_pos c9] at H
     have c9b0 : decide (x7_1 < (l0.length : Int)) = true := decide_eq_true c9
     clear c9
     by_cases c10 : 0 ≤ x7_1
     ·rw [if_pos c10] at H
      have c10b0 : decide (0 ≤ x7_1) = true := decide_eq_true c10
      clear c10
      by_cases c11 : x7_1 < (l0.length : Int)
      ·rw [if_pos c11] at H
       have c11b0 : decide (x7_1 < (l0.length : Int)) = true := decide_eq_true c11
       clear c11
       by_cases c12 : (rdOf ByteArray.empty l0 x7_1).toList = a1.toList
       ·rw [if_pos c12] at H
        have c12b0 : ((rdOf ByteArray.empty l0 x7_1).toList == a1.toList) = true := beq_iff_eq.mpr c12
        have c12b1 : ((rdOf ByteArray.empty l0 x7_1).toList != a1.toList) = false := bne_eq_false_iff_eq.mpr c12
        clear c12
        simp only [Option.some.injEq, Prod.mk.injEq] at H
        obtain ⟨rfl, rfl⟩ := H
        have p548 : 0 ≤ (x7_1 : Int) := of_decide_eq_true (by first | (with_reducible assumption) | assumption)
        have q548 : x7_1 < (l0.length : Int) := of_decide_eq_true (by first | (with_reducible assumption) | assumption)
        obtain ⟨ad548, e548, hx548_0⟩ := Kd.at_string HR0.out x7_1 p548 q548
        cases e548
        replace p548 := eq_true p548
        replace q548 := eq_true q548
        go_wp2
        go_ret2
        exact ⟨by first | rfl | (simp; done) | (simp [*]; done), by repeat (first | exact Drawn0.refl _ | apply Drawn0.step)⟩
       ·rw [if_neg c12] at H
        have c12b0 : ((rdOf ByteArray.empty l0 x7_1).toList == a1.toList) = false := beq_eq_false_iff_ne.mpr c12
        have c12b1 : ((rdOf ByteArray.empty l0 x7_1).toList != a1.toList) = true := bne_iff_ne.mpr c12
        replace H := Option.bind_eq_some_iff.mp H
        obtain ⟨t550, A130, H⟩ := H
        replace H : (if t550 = true then ((slices_isNaN_string.f a1).bind fun t551 => (some (x7_1, t551))) else (some (x7_1, false))) = some (r1, r2) := H
        have A13 := Aside0.mk A130
        clear A130
        by_cases c14 : t550 = true
        ·subst c14
         have H1 : ((slices_isNaN_string.f a1).bind fun t551 => (some (x7_1, t551))) = some (r1, r2) := by rw [if_pos rfl] at H; exact H
         clear H
         have H := H1
         clear H1
         replace H := Option.bind_eq_some_iff.mp H
         obtain ⟨t551, A150, H⟩ := H
         replace H : (some (x7_1, t551)) = some (r1, r2) := H
         have A15 := Aside0.mk A150
         clear A150
         simp only [Option.some.injEq, Prod.mk.injEq] at H
         obtain ⟨rfl, rfl⟩ := H
         have p548 : 0 ≤ (x7_1 : Int) := of_decide_eq_true (by first | (with_reducible assumption) | assumption)
         have q548 : x7_1 < (l0.length : Int) := of_decide_eq_true (by first | (with_reducible assumption) | assumption)
         obtain ⟨ad548, e548, hx548_0⟩ := Kd.at_string HR0.out x7_1 p548 q548
         cases e548
         replace p548 := eq_true p548
         replace q548 := eq_true q548
         have p549 : 0 ≤ (x7_1 : Int) := of_decide_eq_true (by first | (with_reducible assumption) | assumption)
         have q549 : x7_1 < (l0.length : Int) := of_decide_eq_true (by first | (with_reducible assumption) | assumption)
         obtain ⟨ad549, e549, hx549_0⟩ := Kd.at_string HR0.out x7_1 p549 q549
         obtain rfl : ad548 = ad549 := (by injection e549)
         replace p549 := eq_true p549
         replace q549 := eq_true q549
         go_wp2_with (first | (go_at_call 71; (with_reducible refine (slices_isNaN_string.calls (rdOf ByteArray.empty l0 x7_1) true _ A13.out).mono ?_); rintro e w' ⟨rfl, ⟨nd, rfl⟩⟩) | (go_at_call 71; (with_reducible refine (slices_isNaN_string.calls a1 t551 _ A15.out).mono ?_); rintro e w' ⟨rfl, ⟨nd, rfl⟩⟩))
         go_ret2
         exact ⟨by first | rfl | (simp; done) | (simp [*]; done), by repeat (first | exact Drawn0.refl _ | apply Drawn0.step)⟩
        ·replace c14 := Bool.eq_false_iff.mpr c14
         subst c14
         have H1 : (some (x7_1, false)) = some (r1, r2) := by rw [if_neg (show ¬ (false = true) by decide)] at H; exact H
         clear H
         have H := H1
         clear H1
         simp only [Option.some.injEq, Prod.mk.injEq] at H
         obtain ⟨rfl, rfl⟩ := H
         have p548 : 0 ≤ (x7_1 : Int) := of_decide_eq_true (by first | (with_reducible assumption) | assumption)
         have q548 : x7_1 < (l0.length : Int) := of_decide_eq_true (by first | (with_reducible assumption) | assumption)
         obtain ⟨ad548, e548, hx548_0⟩ := Kd.at_string HR0.out x7_1 p548 q548
         cases e548
         replace p548 := eq_true p548
         replace q548 := eq_true q548
         have p549 : 0 ≤ (x7_1 : Int) := of_decide_eq_true (by first | (with_reducible assumption) | assumption)
         have q549 : x7_1 < (l0.length : Int) := of_decide_eq_true (by first | (with_reducible assumption) | assumption)
         obtain ⟨ad549, e549, hx549_0⟩ := Kd.at_string HR0.out x7_1 p549 q549
         obtain rfl : ad548 = ad549 := (by injection e549)
         replace p549 := eq_true p549
         replace q549 := eq_true q549
         go_wp2_with (first | (go_at_call 71; (with_reducible refine (slices_isNaN_string.calls (rdOf ByteArray.empty l0 x7_1) false _ A13.out).mono ?_); rintro e w' ⟨rfl, ⟨nd, rfl⟩⟩))
         go_ret2
         exact ⟨by first | rfl | (simp; done) | (simp [*]; done), by repeat (first | exact Drawn0.refl _ | apply Drawn0.step)⟩
      ·rw [if_neg c11] at H
       exact absurd H (by simp)
     ·rw [if_neg c10] at H
      exact absurd H (by simp)
    ·rw [if_neg c9] at H
     have c9b0 : decide (x7_1 < (l0.length : Int)) = false := decide_eq_false c9
     clear c9
     simp only [Option.some.injEq, Prod.mk.injEq] at H
     obtain ⟨rfl, rfl⟩ := H
     go_wp2
     go_ret2
     exact ⟨by first | rfl | (simp; done) | (simp [*]; done), by repeat (first | exact Drawn0.refl _ | apply Drawn0.step)⟩
end Go.Proofs.YtbnoihpooeombaaDoor.P
