/- Part 3 of what is behind the row RowTarWhole: XCN, XCO. -/
import Derived.Test.YtdijnmcfpbceaaaDoorMTW2
import Derived.Test.YtdijnmcfpbceaaaDoorProg
import Derived.Below
import Derived.Deep.Draws
import Derived.Deep.AppendLies
import Derived.Maps.AppendAt
import Derived.OwnWalk
import Derived.Laws.BytesArg
import Derived.Laws.MakeOwn
import Derived.Laws.OwnMore
import Derived.Deep.OwnRows
import Derived.Tactics
import Derived.Lib.ConvBytes
import Derived.Laws.Slices
import Derived.WalkKit
import Derived.KernelRfl
import Derived.RowKit3
import Derived.Deep.LoopGhost
import Derived.Deep.QuietTactic
import Derived.BigQuiet
import Derived.WideLaws
import Derived.Deep.DeepCutAuto
import Derived.Deep.CutBlock
import Derived.Deep.RegionHeld3
import Derived.Laws.Rows
import Derived.Lib.AppendStr
import Derived.ArgAppend
import Derived.Laws.IdiomCopy
import Derived.OrdersHeld
import Derived.Laws.BitsLemmas
import Derived.RowKit
import Derived.Laws.Cover1
import Derived.Laws.StructEq
import Derived.Lib.ItoaNum
import Derived.Lib.ItoaMem
import Derived.Outline
import Derived.WalkLawsBesides
import Derived.WalkSpells
import Derived.LoopTactic
import Derived.Laws.Bits64b
import Derived.Lib.Hide
import Derived.Laws.NewBlocks
import Derived.Lib.AppendIntMem
import Derived.Shelf.Strings.Builder1
import Derived.Shelf.Strings.Builder2
import Derived.Shelf.Strings.OnBuilder
import Derived.Shelf.Small.Strs
import Derived.Shelf.Strings.BuilderF
import Derived.Shelf.Strings.BuilderK
import Derived.Shelf.Strconv.Atoi
import Derived.Shelf.Strconv.Itoa0
import Derived.Shelf.Strconv.Itoa1
import Derived.Shelf.LaysM
import Derived.Shelf.Strconv.Itoa2
import Derived.Shelf.Strconv.Itoa3
import Derived.Shelf.Strconv.Itoa4
import Derived.Shelf.Strconv.AtoiErrFast
import Derived.Shelf.Strconv.ParseIntEmpty
import Derived.Shelf.Strconv.AtoiFail
import Derived.Shelf.Strconv.Clone
import Derived.Shelf.Strconv.SyntaxError
import Derived.Shelf.LaysC
import Derived.Shelf.Strconv.ToError
import Derived.Shelf.Strconv.Lower
import Derived.Shelf.Strconv.ParseUint10
import Derived.Shelf.Strconv.ParseUint10Empty
import Derived.Shelf.Strconv.ParseUint10Any
import Derived.Shelf.Strconv.ParseInt10
import Derived.Shelf.Strconv.AtoiLong
import Derived.Shelf.Strconv.AtoiInnerAll
import Derived.Shelf.Strconv.RangeError
import Derived.Shelf.Strconv.ToErrorRange
import Derived.Shelf.Strconv.AtoiAll
import Derived.Shelf.Strings.Search1
import Derived.Shelf.Strings.Search2
import Derived.Shelf.Strings.Search3
import Derived.Shelf.Strings.Cut
import Derived.Shelf.Strings.Count
import Derived.Shelf.Strings.Shaped
import Derived.Shelf.Strings.Prefix
import Derived.Shelf.Strings.Split
import Derived.Shelf.Bits.Mul64
import Derived.Shelf.Strings.Repeat
import Derived.Shelf.Unicode.DecodeSlow
import Derived.Lib.BufferWrite
import Derived.Laws.CopyOwn
import Derived.Lib.IndexMore
import Derived.Lib.Bytealg
import Derived.Laws.BitsAllLaws
import Derived.Lib.Repeat
import Derived.Lib.AppendZerosOnto
import Derived.Maps.OwnOps
import Derived.Maps.Views
import Derived.StringKeys
import Derived.Lib.SplitLaws
import Derived.Lib.IndexBytes
import Derived.Lib.IndexLaws
import Derived.Lib.LastIndexByte
namespace Go.Proofs.YtdijnmcfpbceaaaDoor.X
open Go.RowKit Go.Proofs.YtdijnmcfpbceaaaDoorW.PrintWords Go.Proofs.YtdijnmcfpbceaaaDoorW.PrintLast Go.Proofs.YtdijnmcfpbceaaaDoorW.PrintMore Go.Proofs.YtdijnmcfpbceaaaDoor.P
set_option linter.unusedVariables false
set_option linter.unusedSimpArgs false
structure EntOk (e : EntT) : Prop where
  may : MayR e.name e.kind (e.data.size : Int) e.link
  small : e.data.size ≤ 10000
  pax : e.kind = 5 → e.name = ⟨#[112, 97, 120]⟩
theorem qFn {e : EntT} (h : EntOk e) : readR ((entryB e).take 512) = (e.name, e.kind, (e.data.size : Int), e.link, true) := by
  have hs := h.small
  have hl : layR e.name e.kind (e.data.size : Int) e.link = (layB e.name e.kind e.data.size e.link, true) := by
    unfold layR
    rw [if_pos ⟨h.may, by omega, by rw [Int.toNat_natCast]; omega⟩, Int.toNat_natCast]
  have h5 := qBi e.name e.kind e.data.size e.link h.may.2.1 h.may.2.2.2.1
  have ht : (entryB e).take 512 = layB e.name e.kind e.data.size e.link := by
    unfold entryB
    rw [hl]
    show (layB e.name e.kind e.data.size e.link ++ _).take 512 = _
    rw [← h5, List.take_left]
  rw [ht]
  exact (qEd hl).1
theorem qG4 {n : S29} (h : goodN n = true) : ∀ e ∈ entsN n, EntOk e := by
  intro e he
  have hx := qDr h
  have hd := qF3 h
  have hk := qBh h
  unfold entsN at he
  rcases List.mem_append.1 he with h1 | h1
  · split at h1
    · cases h1
    · rename_i hz
      rw [List.mem_singleton] at h1
      subst h1
      refine ⟨qF1 _, ?_, fun _ => rfl⟩
      show (extraN n).size ≤ 10000
      split at hx <;> omega
  · rw [List.mem_singleton] at h1
    subst h1
    refine ⟨hd.1, by have := hd.2; omega, fun e => ?_⟩
    have e1 : (ownE n).kind = n.f1 := by unfold ownE; split <;> rfl
    rw [e1] at e
    omega
theorem qHr {t : List S29} (h : treeB t = true) : ∀ e ∈ entsT t, EntOk e := by
  intro e he
  unfold entsT at he
  obtain ⟨n, hn, he⟩ := List.mem_flatMap.1 he
  exact qG4 (qBo h n hn) e he
def ownC (es : List EntT) : Nat := es.countP fun e => e.kind != 5
theorem qDm (t : List S29) (h : ∀ n ∈ t, goodN n = true) : (entsT t).filter (fun e => e.kind != 5) = t.map ownE := by
  induction t with
  | nil => rfl
  | cons n t ih =>
    have ih := ih (fun m hm => h m (List.mem_cons_of_mem _ hm))
    have hg := qBh (h n List.mem_cons_self)
    have e1 : (ownE n).kind = n.f1 := by unfold ownE; split <;> rfl
    have e2 : (n.f1 != 5) = true := bne_iff_ne.2 (by omega)
    unfold entsT at ih ⊢
    rw [List.flatMap_cons, List.filter_append, ih]
    unfold entsN
    split
    · simp [e1, e2]
    · simp [e1, e2]
theorem qF4 {t : List S29} (h : treeB t = true) : ownC (entsT t) = t.length := by
  unfold ownC
  rw [List.countP_eq_length_filter, qDm t (qBo h), List.length_map]
theorem qGu (es : List EntT) (k : Nat) (hk : k < es.length) : ownC (es.take (k + 1)) = ownC (es.take k) + if (es[k].kind != 5) = true then 1 else 0 := by
  unfold ownC
  rw [List.take_succ_eq_append_getElem hk, List.countP_append]
  congr 1
  by_cases h : (es[k].kind != 5) = true
  · rw [if_pos h]
    simp [List.countP_cons, h]
  · rw [if_neg h]
    simp [List.countP_cons, h]
theorem own_le (es : List EntT) (k : Nat) : ownC (es.take k) ≤ ownC es := List.Sublist.countP_le (List.take_sublist k es)
theorem qGv {t : List S29} (h : treeB t = true) (k : Nat) (hk : k < (entsT t).length) (hn : ((entsT t)[k].kind != 5) = true) : ∃ hi : ownC ((entsT t).take k) < t.length, (entsT t)[k].kind = (t[ownC ((entsT t).take k)]'hi).f1 := by
  have hf := qDm t (qBo h)
  have hs : (entsT t).take k ++ (entsT t)[k] :: (entsT t).drop (k + 1) = entsT t := by
    rw [← List.drop_eq_getElem_cons hk, List.take_append_drop]
  generalize (entsT t)[k] = e at *
  generalize (entsT t).take k = a at *
  generalize (entsT t).drop (k + 1) = b at *
  rw [← hs, List.filter_append, List.filter_cons_of_pos (by exact hn)] at hf
  have hl : ownC a = (a.filter fun e => e.kind != 5).length := List.countP_eq_length_filter ..
  generalize a.filter (fun e => e.kind != 5) = fa at *
  have hlt : ownC a < t.length := by
    have := congrArg List.length hf
    rw [List.length_append, List.length_cons, List.length_map] at this
    omega
  refine ⟨hlt, ?_⟩
  have hg : (t.map ownE)[ownC a]? = some e := by rw [← hf, hl]; simp
  rw [List.getElem?_map, List.getElem?_eq_getElem hlt] at hg
  have hg := Option.some.inj hg
  rw [← hg]
  unfold ownE
  split <;> rfl
def atE (es : List EntT) (k : Nat) : Nat := ((es.take k).flatMap entryB).length
theorem qHs (es : List EntT) (h : ∀ e ∈ es, EntOk e) (k : Nat) (hk : k < es.length) : atE es (k + 1) = atE es k + 512 + (es[k].data.size + 511) / 512 * 512 := by
  have he := h es[k] (List.getElem_mem _)
  have := qCd he.may he.small
  unfold blkN at this
  unfold atE
  rw [List.take_succ_eq_append_getElem hk, List.flatMap_append, List.length_append, List.flatMap_cons, List.flatMap_nil, List.append_nil]
  omega
theorem qHu (es : List EntT) (k j : Nat) (h : k ≤ j) : atE es k ≤ atE es j := by
  unfold atE
  have : es.take k = (es.take j).take k := by rw [List.take_take, Nat.min_eq_left h]
  rw [this]
  conv => rhs; rw [← List.take_append_drop k (es.take j)]
  rw [List.flatMap_append, List.length_append]
  omega
theorem at_end (es : List EntT) : atE es es.length = (es.flatMap entryB).length := by unfold atE; rw [List.take_length]
theorem qHt (es : List EntT) (tail : List Int) (h : ∀ e ∈ es, EntOk e) (k : Nat) (hk : k < es.length) :
    readR (((es.flatMap entryB ++ tail).take (atE es k + 512)).drop (atE es k)) = (es[k].name, es[k].kind, (es[k].data.size : Int), es[k].link, true) := by
  have he := h es[k] (List.getElem_mem _)
  have hl := qCd he.may he.small
  have hs : es.flatMap entryB ++ tail = (es.take k).flatMap entryB ++ (entryB es[k] ++ ((es.drop (k + 1)).flatMap entryB ++ tail)) := by
    conv => lhs; rw [← List.take_append_drop k es, List.drop_eq_getElem_cons hk]
    rw [List.flatMap_append, List.flatMap_cons, List.append_assoc, List.append_assoc]
  rw [← qFn he, hs, List.drop_take, show atE es k = ((es.take k).flatMap entryB).length from rfl, List.drop_left, Nat.add_sub_cancel_left, List.take_append_of_le_length (by omega)]
theorem qC3 {t : List S29} : tarB t = (entsT t).flatMap entryB ++ List.replicate 1024 0 := rfl
theorem qFy (t : List S29) : (tarB t).length = atE (entsT t) (entsT t).length + 1024 := by rw [at_end, qC3, List.length_append, List.length_replicate]
theorem qG8 (t : List S29) (j : Nat) (h : atE (entsT t) (entsT t).length ≤ j) : rd (tarB t) (j : Int) = 0 := by
  rw [at_end] at h
  rw [qC3]
  unfold rd
  rw [Int.toNat_natCast, List.getD_eq_getElem?_getD, List.getElem?_append_right h, List.getElem?_replicate]
  split <;> rfl
theorem qEu (n : Nat) : Bytes (List.replicate n 0) := by
  intro x hx
  rw [(List.mem_replicate.1 hx).2]
  omega
theorem qEq (e : EntT) : Bytes (entryB e) := by
  unfold entryB
  exact (qDp _ _ _ _).append ((qBf _).append (qEu _))
theorem qFe (t : List S29) : Bytes (tarB t) := by
  rw [qC3]
  refine Bytes.append (fun x hx => ?_) (qEu _)
  obtain ⟨e, _, hx⟩ := List.mem_flatMap.1 hx
  exact qEq e x hx
theorem qGj {l : List Int} (h : Bytes l) (a b : Nat) : Bytes ((l.take b).drop a) := fun x hx => h x (List.mem_of_mem_take (List.mem_of_mem_drop hx))
end Go.Proofs.YtdijnmcfpbceaaaDoor.X

namespace Go.Proofs.YtdijnmcfpbceaaaDoor.X
open Go.RowKit Go.Proofs.YtdijnmcfpbceaaaDoorW.PrintWords Go.Proofs.YtdijnmcfpbceaaaDoorW.PrintLast Go.Proofs.YtdijnmcfpbceaaaDoorW.PrintMore Go.Proofs.YtdijnmcfpbceaaaDoor.P
set_option linter.unusedVariables false
set_option linter.unusedSimpArgs false
set_option maxHeartbeats 8000000 in
set_option maxRecDepth 100000 in
theorem qDk (A0 : Option Addr) (c0 : Nat) (t : List S29) (w : World) (hT : Aside0 (Tabs w)) (hC : Kd.C k29 w A0 t.length t) (hc : t.length ≤ c0) :
    Calls Tryd.prog 8 #[.slice A0 t.length c0] w fun e w' => e = .returned (.bool true) ∧ Below w.heap.size w w' := by
  have X := Aside0.mk hC
  clear hC
  go_enter Tryd.func8, Tryd.ntmps8
  go_wp2_with fail
  refine (qCx A0 c0 t 30 w X.out hc (by omega)).mono ?_
  rintro e w1 ⟨rfl, hb1⟩
  have HB1 := Aside0.mk hb1
  clear hb1
  obtain ⟨bg, hbg⟩ : ∃ b, greatN t 30 = b := ⟨_, rfl⟩
  have HBG := Aside0.mk hbg
  rw [hbg]
  clear hbg
  cases bg with
  | true =>
    go_wp2_with fail
    refine (qBu w1 ⟨Tabs.below hT.out HB1.out⟩).mono ?_
    rintro e w2 ⟨rfl, hb⟩
    have HB := Aside0.mk (qAe HB1.out hb)
    clear hb
    go_wp2_with fail
    go_ret
    exact ⟨rfl, HB.out⟩
  | false =>
    have h30 : t.length ≤ 30 := (qEp HBG.out).1
    go_wp2_with fail
    refine (qCm A0 c0 t w1 ⟨Tabs.below hT.out HB1.out⟩ (Kd.C_below X.out HB1.out) hc (by omega)).mono ?_
    rintro e w2 ⟨v, rfl, ho, hb2⟩
    have HB2 := Aside0.mk (qAe HB1.out hb2)
    clear hb2
    obtain ⟨A5, c5, rfl, hR⟩ := qEg ho
    have HR := Aside0.mk hR
    have hcap := qHi ho
    clear ho hR
    obtain ⟨bt, hbt⟩ : ∃ b, treeB t = b := ⟨_, rfl⟩
    have HBT := Aside0.mk hbt
    cases bt with
    | false =>
      have HTR := Aside0.mk (show (tarR t).2 = 7 ∧ (tarR t).1 = [] ∧ entsR t = 0 from by
        unfold tarR entsR
        rw [if_neg (by rw [HBT.out]; simp), if_neg (by rw [HBT.out]; simp)]
        exact ⟨rfl, rfl, rfl⟩)
      obtain ⟨q1, q2, q3⟩ := HTR.out
      rw [q1]
      rw [q2] at HR
      have hlz : (tarR t).1.length = 0 := by rw [q2]; rfl
      rw [hlz]
      clear hlz q1 q2 HTR hbt hcap
      go_wp2_with fail
      refine (qBc A0 c0 t w2 ⟨Tabs.below hT.out HB2.out⟩ (Kd.C_below X.out HB2.out) hc (by omega)).mono ?_
      rintro e w3 ⟨rfl, hb3⟩
      have HB3 := Aside0.mk (qAe HB2.out hb3)
      clear hb3
      rw [HBT.out]
      go_wp2_with fail
      refine (qBr A0 c0 t w3 ⟨Tabs.below hT.out HB3.out⟩ (Kd.C_below X.out HB3.out) hc (by omega)).mono ?_
      rintro e w4 ⟨rfl, hb4⟩
      have HB4 := Aside0.mk (qAe HB3.out hb4)
      clear hb4
      rw [q3]
      go_wp2_with fail
      refine (qBu w4 ⟨Tabs.below hT.out HB4.out⟩).mono ?_
      rintro e w5 ⟨rfl, hb5⟩
      have HB5 := Aside0.mk (qAe HB4.out hb5)
      clear hb5
      go_wp2_with fail
      go_ret
      exact ⟨rfl, HB5.out⟩
    | true =>
      have HTR := Aside0.mk (show (tarR t).2 = 0 ∧ (tarR t).1 = tarB t ∧ entsR t = ((entsT t).length : Nat) from by
        unfold tarR entsR
        rw [if_pos HBT.out, if_pos HBT.out]
        exact ⟨rfl, rfl, rfl⟩)
      obtain ⟨q1, q2, q3⟩ := HTR.out
      rw [q1]
      rw [q2] at HR
      have hlz : (tarR t).1.length = (tarB t).length := by rw [q2]
      rw [hlz]
      rw [hlz] at hcap
      have HE := Aside0.mk q3
      have hpos : 0 < (tarB t).length := by rw [qFy]; omega
      obtain ⟨ad, rfl, _⟩ := HR.out.2.2 hpos
      have HRC := Aside0.mk (show (Kd.int .u8).C w2 (some ad) (tarB t).length (tarB t) from Kd.C_of_reads (d := (0 : Int)) (h1 := fun _ => rfl) HR.out)
      clear hlz q1 q2 q3 HTR hbt hpos HR
      go_wp2_with fail
      refine (qBc A0 c0 t w2 ⟨Tabs.below hT.out HB2.out⟩ (Kd.C_below X.out HB2.out) hc (by omega)).mono ?_
      rintro e w3 ⟨rfl, hb3⟩
      have HB3 := Aside0.mk (qAe HB2.out hb3)
      have HR3 := Aside0.mk (Kd.C_below HRC.out hb3)
      clear hb3 HRC HB2 HB1
      rw [HBT.out]
      have HL := Aside0.mk (qFy t)
      have HBt := Aside0.mk (qFe t)
      have hOk := Aside0.mk (qHr HBT.out)
      have HKd := Aside0.mk (fun k hk => qGv HBT.out k hk)
      have HOc := Aside0.mk (qF4 HBT.out)
      have HZe := Aside0.mk (qG8 t)
      have HAR := Aside0.mk (fun k hk => qHt (entsT t) (List.replicate 1024 0) hOk.out k hk)
      rw [← qC3] at HAR
      have hll : (tarB t).length ≤ 600000 := by
        have h1 := qCk t (qB1 HBT.out).1
        rw [qC3, List.length_append, List.length_replicate]
        omega
      have hl15 : 1536 ≤ (tarB t).length := by
        have h1 := (qDx HBT.out).1
        have h2 : 1 ≤ sumH t := by
          cases t with
          | nil => exact absurd HBT.out (by decide)
          | cons n l => unfold sumH headN; rw [List.map_cons, List.sum_cons]; omega
        omega
      have hl512 : (tarB t).length % 512 = 0 := by
        have h1 := (qDx HBT.out).1
        omega
      have hes : (entsT t).length ≤ 600000 := by
        obtain ⟨h1, h2⟩ := qDx HBT.out
        omega
      generalize tarB t = bs at *
      have hmodd : ((bs.length : Int) % 512 != 0) = false := by rw [bne_eq_false_iff_eq]; omega
      have hge : decide ((bs.length : Int) < 1536) = false := decide_eq_false (by omega)
      have HOl := Aside0.mk (own_le (entsT t))
      generalize hes2 : entsT t = es at *
      clear hl512
      go_wp2_with fail
      clear hmodd
      go_loopw [5, 6, 7] (fun va vn vo wr => ∃ k p q : Nat, va = .int .i64 p ∧ vn = .int .i64 k ∧ vo = .int .i64 q ∧ k ≤ es.length ∧ q ≤ t.length ∧ p + 1024 ≤ bs.length ∧ Aside0 (p = atE es k ∧ q = ownC (es.take k)) ∧ Aside0 (Below w.heap.size w wr ∧ Below w3.heap.size w3 wr)) (fun _ b _ _ => es.length - (intOf b).toNat)
      case atStart => exact ⟨0, 0, 0, rfl, rfl, rfl, by omega, by omega, by omega, ⟨rfl, rfl⟩, ⟨HB3.out, Below.refl _ _⟩⟩
      case round =>
        obtain ⟨k, p, q, rfl, rfl, rfl, hk, hq, hp, HPQ, HB⟩ := hrel
        by_cases hkl : k < es.length
        · have HS := Aside0.mk (qHs es hOk.out k hkl)
          have hpe : p + 512 + (es[k].data.size + 511) / 512 * 512 + 1024 ≤ bs.length := by
            have h1 := qHu es (k + 1) es.length (by omega)
            have h2 := HL.out
            rw [HS.out, ← HPQ.out.1] at h1
            omega
          have HRd := Aside0.mk (HAR.out k hkl)
          rw [← HPQ.out.1] at HRd
          have HKk := Aside0.mk (HKd.out k hkl)
          rw [← HPQ.out.2] at HKk
          have HOs := Aside0.mk (qGu es k hkl)
          rw [← HPQ.out.2] at HOs
          have HPx := Aside0.mk (hOk.out es[k] (List.getElem_mem _)).pax
          rw [← HPQ.out.1] at HS
          generalize es[k] = x at *
          have hcp : decide (c5 = p) = false := decide_eq_false (by omega)
          have hcpn : c5 ≠ p := by omega
          have hlt : decide ((p : Int) + 1024 < (bs.length : Int)) = true := decide_eq_true (by omega)
          have hpi : 0 ≤ (p : Int) := by omega
          have HCm := Aside0.mk (Kd.C_mid (lo := p) (hi := p + 512) (Kd.C_below HR3.out HB.out.2) (by omega) (by omega) hcap)
          rw [if_neg hcpn] at HCm
          obtain ⟨KR, hKR⟩ := qHd ((bs.take (p + 512)).drop p) (qGj HBt.out _ _)
          have HKR := Aside0.mk (hKR KR (Nat.le_refl _))
          have hl5 : ((bs.take (p + 512)).drop p).length = 512 := by rw [List.length_drop, List.length_take]; omega
          rw [HRd.out] at HKR
          clear hKR HRd
          have HCall := Aside0.mk (head_Read.calls KR (some (ad.add p)) (c5 - p) ((bs.take (p + 512)).drop p) x.name x.kind (x.data.size : Int) x.link true wr ⟨Tabs.below hT.out HB.out.1⟩ (by
            have h1 := HCm.out
            have e : p * (Kd.int IntKind.u8).sz = p := Nat.mul_one p
            rw [e] at h1
            exact h1) (by rw [hl5]; omega) HKR.out)
          rw [hl5] at HCall
          clear HKR HCm hl5
          obtain ⟨nm, kd, lk, dt⟩ := x
          dsimp only at *
          obtain ⟨bk, hbk⟩ : ∃ b, (kd == 5) = b := ⟨_, rfl⟩
          have hbn : (kd != 5) = !bk := by rw [← hbk]; rfl
          have hds : dt.size ≤ 600000 := by omega
          have hz0 : decide ((dt.size : Int) < 0) = false := decide_eq_false (by omega)
          have hz1 : decide ((bs.length : Int) < (dt.size : Int)) = false := decide_eq_false (by omega)
          have hk1 : k + 1 ≤ 600000 := by omega
          cases bk with
          | true =>
            obtain rfl : nm = ⟨#[112, 97, 120]⟩ := HPx.out (of_decide_eq_true hbk)
            have HQ := Aside0.mk (show p + 512 + (dt.size + 511) / 512 * 512 = atE es (k + 1) ∧ q = ownC (es.take (k + 1)) from ⟨HS.out.symm, by rw [HOs.out, hbn]; rfl⟩)
            clear HS HOs HKk HPx HPQ
            go_wp2_with fail
            refine HCall.out.mono ?_
            rintro e w4 ⟨rfl, hb4⟩
            have HB4 := Aside0.mk (show Below w.heap.size w w4 ∧ Below w3.heap.size w3 w4 from ⟨qAe HB.out.1 hb4, qAe HB.out.2 hb4⟩)
            clear hb4 HB HCall
            go_wp2_with fail
            refine ⟨⟨k + 1, p + 512 + (dt.size + 511) / 512 * 512, q, by first | rfl | (congr 1; omega), by simp, rfl, by omega, by omega, by omega, HQ, HB4⟩, by simp only [intOf]; omega⟩
          | false =>
            obtain ⟨hqi, hqk⟩ := HKk.out hbn
            have HQ := Aside0.mk (show p + 512 + (dt.size + 511) / 512 * 512 = atE es (k + 1) ∧ q + 1 = ownC (es.take (k + 1)) from ⟨HS.out.symm, by rw [HOs.out, hbn]; rfl⟩)
            have hqk2 := Aside0.mk hqk
            clear HS HOs HKk HPx HPQ hqk
            go_wp2_with fail
            refine HCall.out.mono ?_
            rintro e w4 ⟨rfl, hb4⟩
            have HB4 := Aside0.mk (show Below w.heap.size w w4 ∧ Below w3.heap.size w3 w4 from ⟨qAe HB.out.1 hb4, qAe HB.out.2 hb4⟩)
            clear hb4 HB HCall
            obtain ⟨ad2, rfl, z0, z1, z2⟩ := at_T29 (Kd.C_below X.out HB4.out.1) (q : Int) (by omega) (by omega)
            simp only [Int.toNat_natCast] at z0 z1 z2
            have ek : (rd_T29 t (q : Int)).f1 = kd := by rw [qC9 t q hqi, hqk2.out]
            rw [ek] at z1
            clear ek z0 z2
            have hqd : decide ((t.length : Int) ≤ (q : Int)) = false := decide_eq_false (by omega)
            have hkk : (kd != kd) = false := by simp
            have hqz : 0 ≤ (q : Int) := by omega
            go_wp2_with fail
            refine ⟨⟨k + 1, p + 512 + (dt.size + 511) / 512 * 512, q + 1, by first | rfl | (congr 1; omega), by simp, by simp, by omega, by omega, by omega, HQ, HB4⟩, by simp only [intOf]; omega⟩
        · have hke : k = es.length := by omega
          subst hke
          have hpb : p + 1024 = bs.length := by
            have h1 := HL.out
            have h2 := HPQ.out.1
            omega
          have hqt : q = t.length := by
            rw [HPQ.out.2, List.take_length, HOc.out]
          subst hqt
          have hlt : decide ((p : Int) + 1024 < (bs.length : Int)) = false := decide_eq_false (by omega)
          have hne : ((p : Int) + 1024 != (bs.length : Int)) = false := by rw [bne_eq_false_iff_eq]; omega
          have HZ := Aside0.mk (show ∀ j : Nat, p ≤ j → rd bs (j : Int) = 0 from fun j hj => HZe.out j (by rw [← HPQ.out.1]; exact hj))
          clear HPQ
          go_wp2_with fail
          refine (qBr A0 c0 t wr ⟨Tabs.below hT.out HB.out.1⟩ (Kd.C_below X.out HB.out.1) hc (by omega)).mono ?_
          rintro e w6 ⟨rfl, hb6⟩
          rw [HE.out]
          have HB6 := Aside0.mk (show Below w.heap.size w w6 ∧ Below w3.heap.size w3 w6 from ⟨qAe HB.out.1 hb6, qAe HB.out.2 hb6⟩)
          clear hb6
          go_wp2_with fail
          have hlt0 : p ≤ bs.length := by omega
          clear hlt hne
          go_loopw [13] (fun vi wr => ∃ j : Nat, vi = .int .i64 j ∧ p ≤ j ∧ j ≤ bs.length ∧ Aside0 (wr = w6)) (fun a _ => bs.length - (intOf a).toNat)
          case atStart => exact ⟨p, rfl, by omega, by omega, ⟨rfl⟩⟩
          case round =>
            obtain ⟨j, rfl, hj1, hj2, HW⟩ := hrel
            obtain rfl := HW.out
            by_cases hjl : j < bs.length
            · have hjd : decide ((j : Int) < (bs.length : Int)) = true := decide_eq_true (by omega)
              have hcj := (Kd.reads_of_C (d := (0 : Int)) (Kd.C_below HR3.out HB6.out.2)).2.2 (by omega)
              obtain ⟨ad3, e3, hcj⟩ := hcj
              cases e3
              have hc1 := hcj j hjl
              have hz := HZ.out j hj1
              have hz2 : bs.getD j 0 = 0 := by
                unfold rd at hz
                rw [Int.toNat_natCast] at hz
                exact hz
              rw [hz2] at hc1
              have HCj := Aside0.mk hc1
              clear hcj hz hz2
              have hjz : 0 ≤ (j : Int) := by omega
              go_wp2_with fail
              refine ⟨⟨j + 1, by simp, by omega, by omega, ⟨by trivial⟩⟩, by simp only [intOf]; omega⟩
            · have hjd : decide ((j : Int) < (bs.length : Int)) = false := decide_eq_false (by omega)
              have hje : j = bs.length := by omega
              subst hje
              go_wp2_with fail
              refine (qBu wr ⟨Tabs.below hT.out HB6.out.1⟩).mono ?_
              rintro e w7 ⟨rfl, hb7⟩
              have HB7 := Aside0.mk (qAe HB6.out.1 hb7)
              clear hb7
              go_wp2_with fail
              go_ret
              exact ⟨rfl, HB7.out⟩
end Go.Proofs.YtdijnmcfpbceaaaDoor.X
