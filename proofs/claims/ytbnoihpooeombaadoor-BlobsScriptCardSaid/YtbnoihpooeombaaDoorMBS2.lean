/- Part 2 of what is behind the row RowBlobsScript: XWN. -/
import Derived.Test.YtbnoihpooeombaaDoorMBS1
import Derived.Test.YtbnoihpooeombaaDoorProg
import Derived.Below
import Derived.Deep.Draws
import Derived.Deep.AppendLies
import Derived.Maps.AppendAt
import Derived.OwnWalk
import Derived.Laws.BytesArg
import Derived.Laws.MakeOwn
import Derived.Laws.OwnMore
import Derived.Deep.OwnRows
import Derived.Tactics
import Derived.Lib.ConvBytes
import Derived.Laws.Slices
import Derived.WalkKit
import Derived.KernelRfl
import Derived.RowKit3
import Derived.Deep.LoopGhost
import Derived.Deep.QuietTactic
import Derived.BigQuiet
import Derived.WideLaws
import Derived.Deep.DeepCutAuto
import Derived.Deep.CutBlock
import Derived.Deep.RegionHeld3
import Derived.Laws.Rows
import Derived.Lib.AppendStr
import Derived.ArgAppend
import Derived.Laws.IdiomCopy
import Derived.OrdersHeld
import Derived.Laws.BitsLemmas
import Derived.RowKit
import Derived.Laws.Cover1
import Derived.Laws.StructEq
import Derived.Lib.ItoaNum
import Derived.Lib.ItoaMem
import Derived.Outline
import Derived.Deep.AppendSrc
import Derived.Lib.SliceRun
import Derived.WalkLawsBesides
import Derived.WalkSpells
import Derived.LoopTactic
import Derived.Lib.Hide
import Derived.Lib.IndexMore
import Derived.Lib.Bytealg
import Derived.Laws.BitsAllLaws
import Derived.Lib.Repeat
import Derived.Lib.AppendZerosOnto
import Derived.Lib.Overlaps
import Derived.Laws.Externs
import Derived.Laws.CopyOwn
import Derived.Shelf.RegionOpenPlain
import Derived.Laws.Bits64b
import Derived.Laws.NewBlocks
import Derived.Lib.AppendIntMem
import Derived.Shelf.Strings.Builder1
import Derived.Shelf.Strings.Builder2
import Derived.Shelf.Strings.OnBuilder
import Derived.Shelf.Strings.BuilderF
import Derived.Shelf.Strings.BuilderK
import Derived.Shelf.Strconv.Itoa0
import Derived.Shelf.Strconv.Itoa1
import Derived.Shelf.LaysM
import Derived.Shelf.Strconv.Itoa2
import Derived.Shelf.Strconv.Itoa3
import Derived.Shelf.Strings.Prefix
import Derived.Shelf.Bits.Mul64
import Derived.Shelf.Strings.Repeat
import Derived.Deep.DeepMust
import Derived.Lib.ItoaLen
import Derived.Deep.RegionWith
import Derived.Deep.RegionLaw
namespace Go.Proofs.YtbnoihpooeombaaDoor.X
open Go.RowKit Go.Proofs.YtbnoihpooeombaaDoorW.PrintWords Go.Proofs.YtbnoihpooeombaaDoorW.PrintLast Go.Proofs.YtbnoihpooeombaaDoorW.PrintMore Go.Proofs.YtbnoihpooeombaaDoor.P
set_option linter.unusedVariables false
set_option linter.unusedSimpArgs false
theorem qEy : ∀ (d : Nat) (a : List S68) (i : Nat), a.length ≤ 1000000 → a.length - i = d → i ≤ a.length → Ev (fun k => hogsheadlaw0_OverBlobs.l0 k a (i : Int)) () := by
  intro d
  induction d with
  | zero =>
    intro a i hn hd hi
    refine ⟨1, fun k hk => ?_⟩
    obtain ⟨k, rfl⟩ : ∃ m, k = m + 1 := ⟨k - 1, by omega⟩
    simp only [hogsheadlaw0_OverBlobs.l0]
    rw [if_neg (by omega), if_pos (by omega)]
  | succ d ih =>
    intro a i hn hd hi
    obtain ⟨K, hK⟩ := ih (a.set i ⟨⟨#[111, 118, 101, 114]⟩, ⟨#[]⟩⟩) (i + 1) (by rw [List.length_set]; exact hn) (by rw [List.length_set]; omega) (by rw [List.length_set]; omega)
    refine ⟨K + 1, fun k hk => ?_⟩
    obtain ⟨k, rfl⟩ : ∃ m, k = m + 1 := ⟨k - 1, by omega⟩
    simp only [hogsheadlaw0_OverBlobs.l0]
    rw [if_pos (by omega), if_pos (by omega), wrap_i i a.length (by omega) (by omega), Int.toNat_natCast]
    have := hK k (by omega)
    simp only at this
    exact this
theorem qEe (a : List S68) (hn : a.length ≤ 1000000) : Ev (fun k => hogsheadlaw0_OverBlobs.f k a) () := by
  obtain ⟨K, hK⟩ := qEy a.length a 0 hn (by omega) (by omega)
  exact ⟨K, fun k hk => hK k hk⟩
theorem qEx (L : List S68) (d t : ByteArray) (hr : qAh (dgs L) = true) (h : (putR L d t).2 = 0) : (putR L d t).1 = d ∧ getB (putL L d t) d = (t, true) := by
  unfold putR at h ⊢
  split at h
  · cases h
  · rename_i hc
    rw [if_neg hc]
    refine ⟨rfl, ?_⟩
    by_cases hi : isK (dgs L) d = true
    · have hL : putL L d t = L := by unfold putL; rw [if_pos hi]
      rw [hL]
      unfold getB
      rw [if_pos hi]
      have : (rd_T68 L (posK (dgs L) d : Nat)).f1 = t := by
        rcases Classical.em ((rd_T68 L (posK (dgs L) d : Nat)).f1 = t) with e | e
        · exact e
        · exact (hc ⟨hi, e⟩).elim
      rw [this]
    · have hi' := eq_false_of_ne_true hi
      have hL : putL L d t = L.take (posK (dgs L) d) ++ ⟨d, t⟩ :: L.drop (posK (dgs L) d) := by unfold putL; rw [if_neg hi]
      have hr' := qBg d t hr
      have hpl : posK (dgs L) d ≤ L.length := by have := qBr (dgs L) d; rw [qAj] at this; exact this
      have hm : (putL L d t)[posK (dgs L) d]? = some ⟨d, t⟩ := by
        rw [hL, List.getElem?_append_right (by rw [List.length_take]; omega), List.length_take, Nat.min_eq_left hpl, Nat.sub_self]
        rfl
      obtain ⟨hlt, he⟩ := List.getElem?_eq_some_iff.1 hm
      have hK : isK (dgs (putL L d t)) d = true := (qBu _ d hr').2 (by
        have := List.getElem_mem hlt
        rw [he] at this
        exact List.mem_map.2 ⟨_, this, rfl⟩)
      have hP : posK (dgs (putL L d t)) d = posK (dgs L) d := by
        obtain ⟨h1, h2⟩ := isK_lt hK
        have h3 := h2 h1
        rcases Nat.lt_trichotomy (posK (dgs (putL L d t)) d) (posK (dgs L) d) with h4 | h4 | h4
        · have := (qA4 _ d hr' (posK (dgs L) d) (by rw [qAj]; exact hlt))
          have hx : (dgs (putL L d t))[posK (dgs L) d]'(by rw [qAj]; exact hlt) = d := by rw [qAu _ _ hlt, he]
          have h5 := qB4 _ hr' _ _ (by rw [qAj]; exact hlt) h4
          rw [h3, hx, qAt] at h5
          cases h5
        · exact h4
        · have hx : (dgs (putL L d t))[posK (dgs L) d]'(by rw [qAj]; exact hlt) = d := by rw [qAu _ _ hlt, he]
          have h5 := qB4 _ hr' _ _ h1 h4
          rw [h3, hx, qAt] at h5
          cases h5
      unfold getB
      rw [if_pos hK, hP, qBa _ _ hlt, he]
def Apart2 (v u : Value) : Prop := ∀ k, u.ownBlock = some k → v.ownBlock ≠ some k
theorem Apart2.put_left {w : World} {base sb t : Nat} {v v' u : Value} {L : List S68} (h : Apart2 v u) (hu : qAf w t base sb u L) (hv : v'.ownBlock = v.ownBlock ∨ ∃ b, v'.ownBlock = some b ∧ w.heap.size ≤ b) : Apart2 v' u := by
  intro k hk e
  rcases hv with hv | ⟨b, hv, hb⟩
  · exact h k hk (hv ▸ e)
  · have := own_lt hu.row k hk
    rw [hv] at e
    injection e with e
    omega
theorem Apart2.put_right {w : World} {base sb t : Nat} {v u u' : Value} {L : List S68} (h : Apart2 v u) (hv : qAf w t base sb v L) (hu : u'.ownBlock = u.ownBlock ∨ ∃ b, u'.ownBlock = some b ∧ w.heap.size ≤ b) : Apart2 v u' := by
  intro k hk e
  rcases hu with hu | ⟨b, hu, hb⟩
  · exact h k (hu ▸ hk) e
  · have := own_lt hv.row k e
    rw [hu] at hk
    injection hk with hk
    omega
theorem qAf.step {w w1 : World} {t t' base base' sb sb' : Nat} {v u : Value} {L M : List S68} (hu : qAf w t base sb u L) (hv : qAf w t' base' sb' v M) (ht : sb ≠ sb') (h68 : 68 ≠ t) (h68' : 68 ≠ t') (ha : Apart2 v u) (hs : StepB w w1 sb' v.ownBlock) : qAf w1 t base sb u L :=
  hu.keep (hs.block sb (blk_lt hu.cell) ht (own_ne hv.row hu.cell h68)) (fun k hk => hs.block k (own_lt hu.row k hk) (fun e => by
    subst e
    exact own_ne hu.row hv.cell h68' hk.symm) (fun e => ha k hk e.symm))
theorem qB3 (w : World) (base : Nat) (ok : Nat → Prop) : ∀ l, Reps (k68.M w base ok) 2 l (cellsB l)
  | [] => Reps.none _ _
  | x :: l => by
    have h := qB5 (Reps.snoc (Reps.none (k68.M w base ok) 2) (qDi w base ok x) rfl) (qB3 w base ok l)
    exact h
theorem own_R {w : World} {base : Nat} {v : Value} {L : List S68} (h : w.ownsRow base 68 2 v L.length (cellsB L)) : Kd.R k68 68 w base (fun _ => True) v L :=
  ⟨fun _ _ => trivial, cellsB L, h, qB3 _ _ _ L⟩
set_option maxHeartbeats 16000000 in
set_option maxRecDepth 100000 in
theorem qA8 (kD : Nat) (A0 : Option Addr) (c0 : Nat) (l0 : List ByteArray) (dgt : ByteArray) (g : Bool) (w : World) (hT : Aside0 (Tabs w))
    (hr0 : Kd.C Kd.string w A0 l0.length l0) (hc0 : l0.length ≤ c0) (hG : hogsheadlaw0_GreatTexts.f kD l0 30 200 = some g)
    (h1 : sum_Digest.f kD ⟨#[97]⟩ = some digA) (h2 : sum_Digest.f kD ⟨#[]⟩ = some (digD ⟨#[]⟩))
    (hS : g = false → l0.length ≤ 30 ∧ (∀ s ∈ l0, sum_Digest.f kD s = some (digD s) ∧ hogsheadref6_Digest.f kD s = some (digD s))) :
    Calls Tryd.prog 10 #[.slice A0 l0.length c0, .string dgt] w fun e w' => e = .returned (.bool true) ∧ Below w.heap.size w w' := by
  have X0 := Aside0.mk hr0
  have HG := Aside0.mk hG
  have H1 := Aside0.mk h1
  have H2 := Aside0.mk h2
  have HS := Aside0.mk hS
  clear hr0 hG h1 h2 hS
  obtain ⟨bo, hbo⟩ : ∃ b, decide (100 < (dgt.size : Int)) = b := ⟨_, rfl⟩
  go_enter Tryd.func10, Tryd.ntmps10
  go_wp2_with fail
  refine (hogsheadlaw0_GreatTexts.calls kD A0 c0 l0 30 200 g w X0.out hc0 HG.out).mono ?_
  rintro e w2 ⟨rfl, hd⟩
  have HB2 := Aside0.mk hd.below
  clear hd HG
  cases hgb : (g || bo) with
  | true =>
    cases g <;> cases bo <;> first
    | (cases hgb; done)
    | (go_wp2_with (go_at_call 33; refine (qBp kD _ ⟨Tabs.below hT.out HB2.out⟩ H1.out H2.out).mono ?_; rintro e w7 ⟨rfl, hb7⟩; have HB7 := Aside0.mk (qAd HB2.out hb7); clear hb7)
       go_ret
       exact ⟨rfl, HB7.out⟩)
  | false =>
    obtain rfl : g = false := by cases g <;> first | rfl | cases hgb
    obtain rfl : bo = false := by cases bo <;> first | rfl | cases hgb
    clear hgb
    obtain ⟨hn, hDS⟩ := HS.out (by trivial)
    have HDS := Aside0.mk hDS
    clear hDS HS
    go_wp2_with fail
    refine (qB9 w2).mono ?_
    rintro e w3 ⟨rfl, hs3, hb3⟩
    have hsa : w.heap.size ≤ w2.heap.size := HB2.out.size
    have b4 := qAb (Below.refl w3.heap.size w3) (.cells #[.slice none 0 0] 57)
    have HB4 := Aside0.mk (qAd (qAd HB2.out hb3) b4)
    have HA4 := Aside0.mk ((hs3.below b4).lower hsa)
    have hlt := blk_lt hs3.cell
    have HN4 := Aside0.mk (qAq w3 (.cells #[.slice none 0 0] 57))
    clear hs3 b4 HB2
    have hsb3 := qAg hb3
    clear hb3
    go_wp2_with fail
    generalize w3.alloc (.cells #[.slice none 0 0] 57) = W4 at *
    generalize w2.heap.size = sa at *
    generalize w3.heap.size = sb at *
    have hne : sa ≠ sb := by omega
    have hsb : w.heap.size ≤ sb := by omega
    have HS4 := Aside0.mk (show qAf W4 57 w.heap.size sb (.slice none 0 0) [] from ⟨HN4.out, ⟨rfl, .inl ⟨rfl, rfl⟩⟩⟩)
    have HP4 := Aside0.mk (show Apart2 (.slice none 0 0) (.slice none 0 0) from fun k hk => by cases hk)
    clear HN4 hlt hsb3
    go_loopw [7] (fun v7 wr => ∃ (i : Nat) (va vb : Value) (L : List S68), v7 = .int .i64 i ∧ i ≤ l0.length ∧ L.length ≤ i ∧ Aside0 (qAh (dgs L) = true) ∧ Aside0 (qAf wr 91 w.heap.size sa va L) ∧ Aside0 (qAf wr 57 w.heap.size sb vb L) ∧ Aside0 (Apart2 va vb) ∧ Aside0 (Below w.heap.size w wr)) (fun a _ => l0.length - (intOf a).toNat)
    case atStart => exact ⟨0, _, _, [], rfl, by omega, by simp, ⟨rfl⟩, HA4, HS4, HP4, HB4⟩
    case round =>
      clear HA4 HS4 HP4 HB4
      obtain ⟨i, va, vb, L, rfl, hi, hL, HR, HA, HS, HP, HB⟩ := hrel
      by_cases hil : i < l0.length
      · have hic : decide ((i : Int) < (l0.length : Int)) = true := by simp; omega
        have hi0 : 0 ≤ (i : Int) := by omega
        obtain ⟨ad, rfl, hk0⟩ := Kd.at_string X0.out (i : Int) hi0 (by omega)
        simp only [Int.toNat_natCast] at hk0
        have hkey := qAe HB.out hk0
        have HK0 := Aside0.mk hk0
        clear hk0
        have HK := Aside0.mk (show rdOf ByteArray.empty l0 (i : Int) = l0[i] from by simp [rdOf, List.getD_eq_getElem?_getD, hil])
        generalize rdOf ByteArray.empty l0 (i : Int) = s at *
        obtain ⟨hD1, hD2⟩ := HDS.out s (by rw [HK.out]; exact List.getElem_mem _)
        have HD1 := Aside0.mk hD1
        have HD2 := Aside0.mk hD2
        clear hD1 hD2
        go_wp2_with fail
        refine (qBm kD w.heap.size sa va L s (digD s) wr ⟨Tabs.below hT.out HB.out⟩ HA.out HR.out (by omega) HD1.out (qAg HB.out)).mono ?_
        rintro e w5 ⟨rfl, va', ha5, hv5, hst5⟩
        have HB5 := Aside0.mk (qAv HB.out hst5 hsa (fun k hk => qAo HA.out.row k hk))
        have HS5 := Aside0.mk (HS.out.step HA.out (fun e => hne e.symm) (by decide) (by decide) HP.out hst5)
        have HP5 := Aside0.mk (HP.out.put_left HS.out hv5)
        have HA5 := Aside0.mk ha5
        clear hkey hst5 hv5 ha5 HA HS HP HD1 HB
        have hkey := qAe HB5.out HK0.out
        go_wp2_with fail
        refine (qC1 kD w.heap.size sb vb L s (digD s) w5 HS5.out HR.out (by omega) HD2.out (qAg HB5.out)).mono ?_
        rintro e w6 ⟨rfl, vb', hs6, hv6, hst6⟩
        have HB6 := Aside0.mk (qAv HB5.out hst6 hsb (fun k hk => qAo HS5.out.row k hk))
        have HA6 := Aside0.mk (HA5.out.step HS5.out hne (by decide) (by decide) (fun k hk e => HP5.out k e hk) hst6)
        have HP6 := Aside0.mk (HP5.out.put_right HA5.out hv6)
        have HS6 := Aside0.mk hs6
        have HR6 := Aside0.mk (qBg (digD s) s HR.out)
        have HG6 := Aside0.mk (qEx L (digD s) s HR.out)
        have hL6 : (putL L (digD s) s).length ≤ i + 1 := by
          have := qDq L (digD s) s
          omega
        generalize putL L (digD s) s = L6 at *
        clear hs6 hv6 hst6 HS5 HA5 HP5 HB5 HD2 hkey HR
        generalize (putR L (digD s) s).1 = da at *
        generalize (putR L (digD s) s).2 = ea at *
        clear hL
        go_wp2_with fail
        refine (qCd w.heap.size sa va' L6 dgt w6 HA6.out HR6.out (by omega)).mono ?_
        rintro e w7 ⟨rfl, hb7⟩
        have HB7 := Aside0.mk (qAd HB6.out hb7)
        have HA7 := Aside0.mk (HA6.out.below hb7)
        have HS7 := Aside0.mk (HS6.out.below hb7)
        clear hb7 HB6 HA6 HS6
        go_wp2_with fail
        refine (qC2 w.heap.size sb vb' L6 dgt w7 HS7.out HR6.out (by omega)).mono ?_
        rintro e w8 ⟨rfl, rfl⟩
        generalize (getB L6 dgt).1 = tc at *
        generalize (getB L6 dgt).2 = tp at *
        go_wp2_with fail
        have HU6 := Aside0.mk (show ea = 0 → (getB L6 da).1 = s ∧ (getB L6 da).2 = true from fun h => by
          obtain ⟨e1, e2⟩ := HG6.out h
          rw [e1, e2]
          exact ⟨rfl, rfl⟩)
        refine (qCd w.heap.size sa va' L6 da w7 HA7.out HR6.out (by omega)).mono ?_
        rintro e w9 ⟨rfl, hb9⟩
        have HB9 := Aside0.mk (qAd HB7.out hb9)
        have HA9 := Aside0.mk (HA7.out.below hb9)
        have HS9 := Aside0.mk (HS7.out.below hb9)
        clear hb9 HB7 HA7 HS7
        go_wp2_with fail
        refine (qCm w.heap.size sa va' L6 w9 HA9.out (by omega)).mono ?_
        rintro e w10 ⟨v10, rfl, ho10, hb10⟩
        have HB10 := Aside0.mk (qAd HB9.out hb10)
        have HA10 := Aside0.mk (HA9.out.below hb10)
        have HS10 := Aside0.mk (HS9.out.below hb10)
        have HO10 := Aside0.mk ho10
        have HN10 := Aside0.mk hb10
        clear hb10 ho10
        generalize (getB L6 da).1 = tu at *
        generalize (getB L6 da).2 = ti at *
        clear HG6
        have hkey := qAe HB10.out HK0.out
        obtain ⟨A10, c10, rfl, hC10⟩ := qAs HO10.out (qA6 w10 L6) rfl
        have hcap10 := qCt HO10.out
        have HC10 := Aside0.mk (show Kd.C k68 w10 A10 L6.length L6 from hC10)
        obtain ⟨A2, c2, rfl, hc2, hC2⟩ := HS10.out.reads
        have HC2 := Aside0.mk hC2
        have hcc := cell_of_one HS10.out.cell
        clear hC2 hC10
        obtain ⟨KS, hKS⟩ := qBf L6 (by omega)
        have HKS := Aside0.mk (hKS KS (Nat.le_refl _))
        clear hKS
        have hx1 : (da.toList == da.toList) = true := by simp
        have hx2 : (da.toList != da.toList) = false := by simp
        have hx3 : (tc.toList == tc.toList) = true := by simp
        have hx4 : (tc.toList != tc.toList) = false := by simp
        have hx5 : (tp == tp) = true := by simp
        have hx6 : (tp != tp) = false := by simp
        have hx7 : (ea == ea) = true := by simp
        have hx8 : (ea != ea) = false := by simp
        have hx9 : (L6.length == L6.length) = true := by simp
        have hx10 : (L6.length != L6.length) = false := by simp
        obtain ⟨z, hz⟩ : ∃ b, (ea == 0) = b := ⟨_, rfl⟩
        obtain ⟨y, hy⟩ : ∃ b, (tu.toList != s.toList) = b := ⟨_, rfl⟩
        cases z with
        | true =>
          obtain ⟨rfl, rfl⟩ := HU6.out (by simpa using hz)
          obtain rfl : y = false := by rw [← hy]; simp
          clear HU6
          go_wp2_with fail
          go_quiet (first
            | (go_at_call 20; refine Calls.quiet_of ((hogsheadlaw0_Num.calls ea ea _ rfl).mono fun e w' h => ⟨h.1, h.2.out⟩))
            | (go_at_call 40; refine Calls.quiet_of_same ((qCa w.heap.size sa va' L6 _ (HA10.out.below (qAa (Below.refl _ _) _))).mono fun e w' h => ⟨h.1, h.2.symm⟩))
            | (go_at_call 41; refine Calls.quiet_of ((hogsheadlaw0_SameBlobs.calls KS A10 c10 L6 A2 c2 L6 true _ (Kd.C_below HC10.out (qAa (Below.refl _ _) _)) hcap10 (Kd.C_below HC2.out (qAa (Below.refl _ _) _)) hc2 HKS.out).mono fun e w' h => ⟨h.1, h.2.out⟩)))
          have HN11 := Aside0.mk (qAa HN10.out nq)
          have HO11 := Aside0.mk (Kd.R_below (own_R HO10.out) (qAa (Below.refl _ _) nq))
          clear HN10 HO10 HC10 HC2 HKS hcc hkey HA10 HS10 HB10
          generalize w10.drewN nq = w11 at *
          obtain ⟨KO, hKO⟩ := qEe L6 (by omega)
          have HKO := Aside0.mk (hKO KO (Nat.le_refl _))
          clear hKO
          go_wp2_with fail
          refine (hogsheadlaw0_OverBlobs.calls KO _ _ L6 w9 w11 HN11.out HO11.out HKO.out).mono ?_
          rintro e w12 ⟨rfl, hb12, _⟩
          have HB12 := Aside0.mk (qAd HB9.out hb12)
          have HA12 := Aside0.mk (HA9.out.below hb12)
          have HS12 := Aside0.mk (HS9.out.below hb12)
          clear hb12 HB9 HA9 HS9 HN11 HO11 HKO
          have hw := wrap_i i l0.length hil (by omega)
          go_wp2_with fail
          exact ⟨⟨i + 1, _, _, L6, by simp, by omega, hL6, HR6, HA12, HS12, HP6, HB12⟩, by simp [intOf]; omega⟩
        | false =>
          clear HU6
          go_wp2_with fail
          go_quiet (first
            | (go_at_call 20; refine Calls.quiet_of ((hogsheadlaw0_Num.calls ea ea _ rfl).mono fun e w' h => ⟨h.1, h.2.out⟩))
            | (go_at_call 40; refine Calls.quiet_of_same ((qCa w.heap.size sa va' L6 _ (HA10.out.below (qAa (Below.refl _ _) _))).mono fun e w' h => ⟨h.1, h.2.symm⟩))
            | (go_at_call 41; refine Calls.quiet_of ((hogsheadlaw0_SameBlobs.calls KS A10 c10 L6 A2 c2 L6 true _ (Kd.C_below HC10.out (qAa (Below.refl _ _) _)) hcap10 (Kd.C_below HC2.out (qAa (Below.refl _ _) _)) hc2 HKS.out).mono fun e w' h => ⟨h.1, h.2.out⟩)))
          have HN11 := Aside0.mk (qAa HN10.out nq)
          have HO11 := Aside0.mk (Kd.R_below (own_R HO10.out) (qAa (Below.refl _ _) nq))
          clear HN10 HO10 HC10 HC2 HKS hcc hkey HA10 HS10 HB10
          generalize w10.drewN nq = w11 at *
          obtain ⟨KO, hKO⟩ := qEe L6 (by omega)
          have HKO := Aside0.mk (hKO KO (Nat.le_refl _))
          clear hKO
          go_wp2_with fail
          refine (hogsheadlaw0_OverBlobs.calls KO _ _ L6 w9 w11 HN11.out HO11.out HKO.out).mono ?_
          rintro e w12 ⟨rfl, hb12, _⟩
          have HB12 := Aside0.mk (qAd HB9.out hb12)
          have HA12 := Aside0.mk (HA9.out.below hb12)
          have HS12 := Aside0.mk (HS9.out.below hb12)
          clear hb12 HB9 HA9 HS9 HN11 HO11 HKO
          have hw := wrap_i i l0.length hil (by omega)
          go_wp2_with fail
          exact ⟨⟨i + 1, _, _, L6, by simp, by omega, hL6, HR6, HA12, HS12, HP6, HB12⟩, by simp [intOf]; omega⟩
      · have hic : decide ((i : Int) < (l0.length : Int)) = false := by simp; omega
        clear HDS
        obtain ⟨A2, c2, rfl, hc2, hC2⟩ := HS.out.reads
        have hcc := cell_of_one HS.out.cell
        obtain ⟨KS, hKS⟩ := qBf L (by omega)
        have HKS := Aside0.mk (hKS KS (Nat.le_refl _))
        have HBd := Aside0.mk (show Below w.heap.size w wr.drew from qBd HB.out)
        have HAd := Aside0.mk (HA.out.below (show Below wr.heap.size wr wr.drew from qBd (Below.refl _ _)))
        have HCd := Aside0.mk (Kd.C_below hC2 (show Below wr.heap.size wr wr.drew from qBd (Below.refl _ _)))
        have HSd := Aside0.mk (HS.out.below (show Below wr.heap.size wr wr.drew from qBd (Below.refl _ _)))
        clear hKS hC2 HB HA HS HP
        go_wp2_with fail
        go_region_with (first
          | (go_at_call 39
             refine (qCm w.heap.size sa va L _ HAd.out (by omega)).mono ?_
             rintro e w6 ⟨v6, rfl, ho6, hb6⟩
             obtain ⟨a6, c6, rfl, hC6⟩ := qAs ho6 (qA6 w6 L) rfl
             have hcap6 := qCt ho6
             have HB6 := Aside0.mk (qAd HBd.out hb6)
             have HD6 := Aside0.mk (Kd.C_below HCd.out hb6)
             have hcc6 := cell_of_one (HSd.out.below hb6).cell
             have HC6 := Aside0.mk (show Kd.C k68 w6 a6 L.length L from hC6)
             clear hb6 ho6 hC6 HBd HAd HCd HSd)
          | (go_at_call 41
             refine (hogsheadlaw0_SameBlobs.calls KS a6 c6 L A2 c2 L true w6 HC6.out hcap6 HD6.out hc2 HKS.out).mono ?_
             rintro e w8 ⟨rfl, hd8⟩
             have HB8 := Aside0.mk (qAd HB6.out hd8.below)
             clear hd8 HC6 HD6 HB6)
          | (go_at_call 33
             refine (qBp kD _ ⟨Tabs.below hT.out HB8.out⟩ H1.out H2.out).mono ?_
             rintro e w11 ⟨rfl, hb11⟩
             have HB11 := Aside0.mk (qAd HB8.out hb11)
             clear hb11 HB8))
        all_goals
          go_wp2_with fail
          go_ret
          exact ⟨rfl, HB11.out⟩
theorem qBx (A0 : Option Addr) (c0 : Nat) (l0 : List ByteArray) (dgt : ByteArray) (w : World) (hT : Aside0 (Tabs w))
    (hr0 : Kd.C Kd.string w A0 l0.length l0) (hc0 : l0.length ≤ c0) :
    Calls Tryd.prog 10 #[.slice A0 l0.length c0, .string dgt] w fun e w' => e = .returned (.bool true) ∧ Below w.heap.size w w' := by
  obtain ⟨K1, h1⟩ := dig_Ev ⟨#[97]⟩ (by decide)
  obtain ⟨K2, h2⟩ := dig_Ev ⟨#[]⟩ (by decide)
  rw [qE4] at h1
  obtain ⟨K3, h3⟩ := qCx l0 30 200 (by omega)
  by_cases hg : ((l0.length : Int) > 30 ∨ ∃ s ∈ l0, (s.size : Int) > 200)
  · refine qA8 (K1 + K2 + K3) A0 c0 l0 dgt _ w hT hr0 hc0 (h3 _ (by omega)) (h1 _ (by omega)) (h2 _ (by omega)) (fun h => ?_)
    rw [decide_eq_false_iff_not] at h
    exact (h hg).elim
  · have hs : ∀ s ∈ l0, s.size ≤ 200 := fun s hm => by
      rcases Nat.lt_or_ge 200 s.size with h | h
      · exact (hg (.inr ⟨s, hm, by omega⟩)).elim
      · exact h
    obtain ⟨K4, h4⟩ := ev_all (fun k s => sum_Digest.f k s) digD l0 (fun s hm => dig_Ev s (by have := hs s hm; omega))
    obtain ⟨K5, h5⟩ := ev_all (fun k s => hogsheadref6_Digest.f k s) digD l0 (fun s hm => qEb s (by have := hs s hm; omega))
    exact qA8 (K1 + K2 + K3 + K4 + K5) A0 c0 l0 dgt _ w hT hr0 hc0 (h3 _ (by omega)) (h1 _ (by omega)) (h2 _ (by omega)) (fun _ => ⟨by omega, fun s hm => ⟨h4 _ (by omega) s hm, h5 _ (by omega) s hm⟩⟩)
end Go.Proofs.YtbnoihpooeombaaDoor.X
