/- Part 6 of what is behind the row RowValueKeys: XVPE. -/
import Derived.Test.YtbnoihpooeombaaDoorMVK5
import Derived.Test.YtbnoihpooeombaaDoorProg
import Derived.Below
import Derived.Deep.Draws
import Derived.Deep.AppendLies
import Derived.Maps.AppendAt
import Derived.OwnWalk
import Derived.Laws.BytesArg
import Derived.Laws.MakeOwn
import Derived.Laws.OwnMore
import Derived.Deep.OwnRows
import Derived.Tactics
import Derived.Lib.ConvBytes
import Derived.Laws.Slices
import Derived.WalkKit
import Derived.KernelRfl
import Derived.RowKit3
import Derived.Deep.LoopGhost
import Derived.Deep.QuietTactic
import Derived.BigQuiet
import Derived.WideLaws
import Derived.Deep.DeepCutAuto
import Derived.Deep.CutBlock
import Derived.Deep.RegionHeld3
import Derived.Laws.Rows
import Derived.Lib.AppendStr
import Derived.ArgAppend
import Derived.Laws.IdiomCopy
import Derived.OrdersHeld
import Derived.Laws.BitsLemmas
import Derived.RowKit
import Derived.Laws.Cover1
import Derived.Laws.StructEq
import Derived.Lib.ItoaNum
import Derived.Lib.ItoaMem
import Derived.Deep.AppendSrc
import Derived.Lib.SliceRun
import Derived.Outline
import Derived.WalkLawsBesides
import Derived.WalkSpells
import Derived.LoopTactic
import Derived.Lib.Hide
import Derived.Lib.IndexMore
import Derived.Lib.Bytealg
import Derived.Laws.BitsAllLaws
import Derived.Lib.Repeat
import Derived.Lib.AppendZerosOnto
import Derived.Lib.Overlaps
import Derived.Laws.Externs
import Derived.Laws.CopyOwn
import Derived.Shelf.RegionOpenPlain
import Derived.Laws.Bits64b
import Derived.Laws.NewBlocks
import Derived.Lib.AppendIntMem
import Derived.Shelf.Strings.Builder1
import Derived.Shelf.Strings.Builder2
import Derived.Shelf.Strings.OnBuilder
import Derived.Shelf.Strings.BuilderF
import Derived.Shelf.Strings.BuilderK
import Derived.Shelf.Strconv.Itoa0
import Derived.Shelf.Strconv.Itoa1
import Derived.Shelf.LaysM
import Derived.Shelf.Strconv.Itoa2
import Derived.Shelf.Strconv.Itoa3
import Derived.Shelf.Strings.Prefix
import Derived.Shelf.Bits.Mul64
import Derived.Shelf.Strings.Repeat
import Derived.Deep.DeepMust
import Derived.Lib.ItoaLen
namespace Go.Proofs.YtbnoihpooeombaaDoor.X
open Go.RowKit Go.Proofs.YtbnoihpooeombaaDoorW.PrintWords Go.Proofs.YtbnoihpooeombaaDoor.P
set_option linter.unusedVariables false
set_option linter.unusedSimpArgs false
def numV (m : Nat) : S25 := ⟨2, false, (m : Int), ⟨#[]⟩, [], []⟩
theorem qCd (m : Nat) : tameD 1 (numV m) ∧ nodesV 1 (numV m) = 1 := by
  refine ⟨⟨show (⟨#[]⟩ : ByteArray).size ≤ 100 by decide, show ([] : List ByteArray).length ≤ 100 by simp, ?_, ?_⟩, by simp [nodesV, numV]⟩
  · intro s hs; simp [numV] at hs
  · intro s hs; simp [numV] at hs
theorem qGr (m d : Nat) (h : m ≤ 1000) : goodV (d + 1) (numV m) = true := by
  rw [goodV, Bool.and_eq_true]
  refine ⟨?_, by simp [numV]⟩
  have h1 : ((-9007199254740992 : Int) ≤ (m : Int)) := by omega
  have h2 : ((m : Int) ≤ 9007199254740992) := by omega
  simp [qA9, numV, qEe, h1, h2]
def ShortK (ks : List ByteArray) : Prop := ks.length ≤ 12 ∧ ∀ s ∈ ks, s.size ≤ 100
def objKV (q : List ByteArray × List S25) : S25 := ⟨5, false, 0, ⟨#[]⟩, q.2, q.1⟩
theorem qC2 (P : ByteArray → Prop) (Q : S25 → Prop) : ∀ (ks : List ByteArray) (vs : List S25) (K : List ByteArray) (V : List S25), (∀ k ∈ ks, P k) → (∀ v ∈ vs, Q v) → (∀ k ∈ K, P k) → (∀ v ∈ V, Q v) →
    (∀ k ∈ (ofP ks vs K V).1, P k) ∧ (∀ v ∈ (ofP ks vs K V).2, Q v) ∧ (ofP ks vs K V).2.length ≤ V.length + vs.length
  | [], vs, K, V, _, _, hK, hV => by
    have : ofP [] vs K V = (K, V) := by cases vs <;> rfl
    rw [this]; exact ⟨hK, hV, by simp⟩
  | _ :: _, [], K, V, _, _, hK, hV => ⟨hK, hV, by simp [ofP]⟩
  | k0 :: ks, v0 :: vs, K, V, hk, hv, hK, hV => by
    rw [ofP]
    split
    · obtain ⟨h1, h2, h3⟩ := qC2 P Q ks vs K V (fun k h => hk k (List.mem_cons_of_mem _ h)) (fun v h => hv v (List.mem_cons_of_mem _ h)) hK hV
      exact ⟨h1, h2, by rw [List.length_cons]; omega⟩
    · obtain ⟨h1, h2, h3⟩ := qC2 P Q ks vs (K.take (posK K k0) ++ k0 :: K.drop (posK K k0)) (V.take (posK K k0) ++ v0 :: V.drop (posK K k0)) (fun k h => hk k (List.mem_cons_of_mem _ h)) (fun v h => hv v (List.mem_cons_of_mem _ h))
        (fun k h => by rcases (qB6 K _ k0 k).1 h with e | h
                       · exact e ▸ hk k0 (List.mem_cons_self ..)
                       · exact hK k h)
        (fun v h => by rcases (qB6 V _ v0 v).1 h with e | h
                       · exact e ▸ hv v0 (List.mem_cons_self ..)
                       · exact hV v h)
      refine ⟨h1, h2, ?_⟩
      have : (V.take (posK K k0) ++ v0 :: V.drop (posK K k0)).length ≤ V.length + 1 := by
        simp only [List.length_append, List.length_cons, List.length_take, List.length_drop]; omega
      rw [List.length_cons]
      omega
theorem qCt (ks : List ByteArray) (ms : List Nat) (hk : ShortK ks) (hl : ks.length = ms.length) (hm : ∀ m ∈ ms, m ≤ 1000) :
    T 2 4000 (objKV (ofP ks (ms.map numV) [] [])) ∧ goodV 16 (objKV (ofP ks (ms.map numV) [] [])) = true ∧ (∀ v ∈ (ofP ks (ms.map numV) [] []).2, ∃ m, v = numV m) ∧
      Ev (fun k => value_Of.f k ks (ms.map numV)) (5, false, 0, ⟨#[]⟩, (ofP ks (ms.map numV) [] []).2, (ofP ks (ms.map numV) [] []).1) := by
  obtain ⟨h1, h2, h3⟩ := qC2 (fun s => s.size ≤ 100) (fun v => ∃ m : Nat, m ≤ 1000 ∧ v = numV m) ks (ms.map numV) [] [] hk.2 (fun v hv => by
    obtain ⟨m, hm', rfl⟩ := List.mem_map.1 hv
    exact ⟨m, hm m hm', rfl⟩) (fun k h => by cases h) (fun v h => by cases h)
  obtain ⟨g1, g2, g3⟩ := qB0 ks (ms.map numV) [] [] rfl rfl
  rw [List.length_map, List.length_nil] at h3
  have hkl := hk.1
  have hT : T 2 4000 (objKV (ofP ks (ms.map numV) [] [])) := by
    refine ⟨⟨show (⟨#[]⟩ : ByteArray).size ≤ 100 by decide, show (ofP ks (ms.map numV) [] []).1.length ≤ 100 by omega, h1, fun y hy => ?_⟩, ?_⟩
    · obtain ⟨m, _, rfl⟩ := h2 y hy
      exact (qCd m).1
    · rw [nodesV]
      have := sum_le'' (nodesV 1) 1 (ofP ks (ms.map numV) [] []).2 (fun y hy => by
        obtain ⟨m, _, rfl⟩ := h2 y hy
        rw [(qCd m).2]; omega)
      show 1 + ((ofP ks (ms.map numV) [] []).2.map (nodesV 1)).sum ≤ 4000
      omega
  have hg : goodV 16 (objKV (ofP ks (ms.map numV) [] [])) = true := by
    rw [goodV, Bool.and_eq_true, List.all_eq_true]
    refine ⟨by simp [objKV, qA9, qEe, g2, g1], fun y hy => ?_⟩
    obtain ⟨m, hm', rfl⟩ := h2 y hy
    exact qGr m 14 hm'
  refine ⟨hT, hg, fun v hv => by obtain ⟨m, _, e⟩ := h2 v hv; exact ⟨m, e⟩, ?_⟩
  obtain ⟨K, hK⟩ := of_val ks (ms.map numV) (by omega)
  refine ⟨K, fun k hk' => ?_⟩
  have hK := hK k hk'
  simp only at hK
  show value_Of.f k _ _ = _
  rw [hK]
  unfold ofR
  have hmay : (mayV 16 ⟨5, false, 0, ByteArray.empty, (ofP ks (ms.map numV) [] []).2, (ofP ks (ms.map numV) [] []).1⟩ 0).2 = true := (qB8 2 (objKV (ofP ks (ms.map numV) [] [])) hT).trans hg
  rw [if_pos hmay]
  rfl
theorem qH6 (ks : List ByteArray) (ns : List Int) (hl : ns.length = ks.length) (hn : ks.length ≤ 12) : ∀ (j i : Nat) (ms : List Nat), ks.length - i = j → i ≤ ks.length → ms.length = i → (∀ m ∈ ms, m ≤ 1000) →
    (∀ ms' : List Nat, ms'.length = ks.length → (∀ m ∈ ms', m ≤ 1000) → Ev (fun k => hogsheadlaw15_ValueKeys.l1 k ks (ms'.map numV) [] [] true (wrap64 ((ks.length : Int) - 1))) true) →
    Ev (fun k => hogsheadlaw15_ValueKeys.l0 k ks ns (ms.map numV) (i : Int)) true := by
  intro j
  induction j with
  | zero =>
    intro i ms hj hi hm hms hcont
    obtain ⟨K, hK⟩ := hcont ms (by omega) hms
    refine ⟨K + 1, fun k hk => ?_⟩
    obtain ⟨k, rfl⟩ : ∃ m, k = m + 1 := ⟨k - 1, by omega⟩
    have hK := hK k (by omega)
    simp only [hogsheadlaw15_ValueKeys.l0]
    rw [if_neg (by omega)]
    exact hK
  | succ j ih =>
    intro i ms hj hi hm hms hcont
    obtain ⟨m, h1, h2⟩ := qGy (rd ns (i : Int)) 1000 (by omega) (by omega)
    have H1 := Aside0.mk h1
    clear h1
    obtain ⟨K, hK⟩ := ih (i + 1) (ms ++ [m]) (by omega) (by omega) (by simp [hm]) (fun x hx => by
      rcases List.mem_append.1 hx with hx | hx
      · exact hms x hx
      · have : x = m := by simpa using hx
        omega) hcont
    refine ⟨K + 1, fun k hk => ?_⟩
    obtain ⟨k, rfl⟩ : ∃ m, k = m + 1 := ⟨k - 1, by omega⟩
    have hK := hK k (by omega)
    simp only [List.map_append, List.map_cons, List.map_nil] at hK
    have E3 : Aside0 (wrap64 ((i : Int) + 1) = ((i + 1 : Nat) : Int)) := ⟨qBk (by omega) (by omega)⟩
    simp only [hogsheadlaw15_ValueKeys.l0]
    rw [if_pos (by omega), if_pos (by omega), if_pos (by omega), H1.out, Option.bind_some, if_pos (by rw [List.length_map]; omega), E3.out]
    exact hK
theorem qDw (ks : List ByteArray) (ms : List Nat) (hk : ShortK ks) (hl : ks.length = ms.length) (hm : ∀ m ∈ ms, m ≤ 1000) (i : Nat) (hi : i < ks.length)
    (hcont : Ev (fun k => hogsheadlaw15_ValueKeys.l4 k ks (ms.map numV) ((i + 1 : Nat) : Int) 5 false 0 ⟨#[]⟩ (ofP ks (ms.map numV) [] []).2 (ofP ks (ms.map numV) [] []).1) true) (f : Nat) (hf : f ≤ i) (hq : ∀ q, (h : q < f) → ks[q]'(by omega) ≠ ks[i]) (e : ks[f]'(by omega) = ks[i]) :
    Ev (fun k => hogsheadlaw15_ValueKeys.l5 k ks (ms.map numV) (i : Int) (f : Int) 5 false 0 ⟨#[]⟩ (ofP ks (ms.map numV) [] []).2 (ofP ks (ms.map numV) [] []).1) true := by
  obtain ⟨hT, hg, hnum, _⟩ := qCt ks ms hk hl hm
  have hkl := hk.1
  obtain ⟨g1, g2, g3⟩ := qB0 ks (ms.map numV) [] [] rfl rfl
  have hlv : ks.length = (ms.map numV).length := by rw [List.length_map]; exact hl
  have hfv := qEt ks (ms.map numV) f (by omega) (by omega) (fun j hj => by rw [e]; exact hq j hj)
  rw [e] at hfv
  have hpair := (g3 ks[i] _).2 (.inr ⟨by simp, hfv⟩)
  obtain ⟨p1, p2⟩ := qHl g1 g2 hpair
  have hget : getV (objKV (ofP ks (ms.map numV) [] [])) ks[i] = some ((ms.map numV)[f]'(by omega)) := by
    unfold getV
    rw [if_pos ⟨rfl, hg, p1⟩]
    exact p2
  obtain ⟨K1, h1⟩ := qG3 ks[i] hT
  obtain ⟨K2, h2⟩ := hcont
  have hnv : ∃ m : Nat, (ms.map numV)[f]'(by omega) = numV m := ⟨ms[f]'(by omega), by simp⟩
  obtain ⟨m, hmv⟩ := hnv
  have hsv := qEh 2 (by omega) (numV m) (numV m) ⟨1, (qCd m).1, by rw [(qCd m).2]; omega⟩
  have hs2 : sameV 2 (numV m) (numV m) = true := (qDr 2 _ _ (qD1 1 _ (qCd m).1).1).2 rfl
  rw [hs2] at hsv
  obtain ⟨K3, h3⟩ := hsv
  refine ⟨K1 + K2 + K3 + 1, fun k hk' => ?_⟩
  obtain ⟨k, rfl⟩ : ∃ m, k = m + 1 := ⟨k - 1, by omega⟩
  have h1 := h1 k (by omega)
  have h2 := h2 k (by omega)
  have h3 := h3 k (by omega)
  simp only at h1 h2 h3
  rw [hget, hmv] at h1
  simp only [objKV] at h1
  have E3 : Aside0 (wrap64 ((i : Int) + 1) = ((i + 1 : Nat) : Int)) := ⟨qBk (by omega) (by omega)⟩
  simp only [hogsheadlaw15_ValueKeys.l5]
  rw [if_pos (by omega), if_pos (by omega), if_pos (by omega), if_pos (by omega), qAs ks f (by omega), qAs ks i hi, if_pos ((qBh _ _).2 e), h1]
  simp only [Option.bind_some, tup, Option.getD_some, Option.isSome_some]
  rw [if_pos trivial, if_pos (by omega), qCj (ms.map numV) f (by omega), hmv]
  have h3' : hogsheadlaw0_SameValue.f k (numV m).f0 (numV m).f1 (numV m).f2 (numV m).f3 (numV m).f4 (numV m).f5 (numV m).f0 (numV m).f1 (numV m).f2 (numV m).f3 (numV m).f4 (numV m).f5 2 = some true := h3
  rw [h3']
  simp only [Option.bind_some]
  rw [if_pos trivial, E3.out]
  exact h2
theorem qH2 (ks : List ByteArray) (ms : List Nat) (hk : ShortK ks) (hl : ks.length = ms.length) (hm : ∀ m ∈ ms, m ≤ 1000) (i : Nat) (hi : i < ks.length)
    (hcont : Ev (fun k => hogsheadlaw15_ValueKeys.l4 k ks (ms.map numV) ((i + 1 : Nat) : Int) 5 false 0 ⟨#[]⟩ (ofP ks (ms.map numV) [] []).2 (ofP ks (ms.map numV) [] []).1) true) :
    ∀ (j f : Nat), i - f = j → (hf : f ≤ i) → (∀ q, (h : q < f) → ks[q]'(by omega) ≠ ks[i]) → Ev (fun k => hogsheadlaw15_ValueKeys.l5 k ks (ms.map numV) (i : Int) (f : Int) 5 false 0 ⟨#[]⟩ (ofP ks (ms.map numV) [] []).2 (ofP ks (ms.map numV) [] []).1) true := by
  obtain ⟨hT, hg, hnum, _⟩ := qCt ks ms hk hl hm
  have hkl := hk.1
  intro j
  induction j with
  | zero =>
    intro f hj hf hq
    have hfi : f = i := by omega
    subst hfi
    exact qDw ks ms hk hl hm f hi hcont f (Nat.le_refl _) hq rfl
  | succ j ih =>
    intro f hj hf hq
    by_cases e : ks[f]'(by omega) = ks[i]
    · exact qDw ks ms hk hl hm i hi hcont f hf hq e
    · obtain ⟨K, hK⟩ := ih (f + 1) (by omega) (by omega) (fun q h => by
        by_cases c : q = f
        · subst c; exact e
        · exact hq q (by omega))
      refine ⟨K + 1, fun k hk' => ?_⟩
      obtain ⟨k, rfl⟩ : ∃ m, k = m + 1 := ⟨k - 1, by omega⟩
      have hK := hK k (by omega)
      simp only at hK
      have E3 : Aside0 (wrap64 ((f : Int) + 1) = ((f + 1 : Nat) : Int)) := ⟨qBk (by omega) (by omega)⟩
      simp only [hogsheadlaw15_ValueKeys.l5]
      rw [if_pos (by omega), if_pos (by omega), if_pos (by omega), if_pos (by omega), qAs ks f (by omega), qAs ks i hi, if_neg (fun h => e ((qBh _ _).1 h)), E3.out]
      exact hK
theorem qH3 (ks : List ByteArray) (ms : List Nat) (hk : ShortK ks) (hl : ks.length = ms.length) (hm : ∀ m ∈ ms, m ≤ 1000) : ∀ (j i : Nat), ks.length - i = j → i ≤ ks.length →
    Ev (fun k => hogsheadlaw15_ValueKeys.l4 k ks (ms.map numV) (i : Int) 5 false 0 ⟨#[]⟩ (ofP ks (ms.map numV) [] []).2 (ofP ks (ms.map numV) [] []).1) true := by
  intro j
  induction j with
  | zero =>
    intro i hj hi
    obtain ⟨K, hK⟩ := qC5
    refine ⟨K + 1, fun k hk' => ?_⟩
    obtain ⟨k, rfl⟩ : ∃ m, k = m + 1 := ⟨k - 1, by omega⟩
    have hK := hK k (by omega)
    simp only at hK
    simp only [hogsheadlaw15_ValueKeys.l4]
    rw [if_neg (by omega), hK]
    rfl
  | succ j ih =>
    intro i hj hi
    obtain ⟨K, hK⟩ := qH2 ks ms hk hl hm i (by omega) (ih (i + 1) (by omega) (by omega)) i 0 (by omega) (by omega) (fun q h => by omega)
    refine ⟨K + 1, fun k hk' => ?_⟩
    obtain ⟨k, rfl⟩ : ∃ m, k = m + 1 := ⟨k - 1, by omega⟩
    have hK := hK k (by omega)
    simp only [hogsheadlaw15_ValueKeys.l4]
    rw [if_pos (by omega)]
    exact hK
theorem qEk : ∀ (K : List ByteArray), qAx K = true → ∀ (p q : Nat) (hq : q < K.length) (hpq : p < q), lessB (K[p]'(by omega)) K[q] = true
  | [], _, p, q, hq, _ => by simp at hq
  | a :: K, hr, p, q, hq, hpq => by
    obtain ⟨h1, h2⟩ := qBc hr
    cases q with
    | zero => omega
    | succ q =>
      cases p with
      | zero => exact h2 _ (List.getElem_mem _)
      | succ p => exact qEk K h1 p q (by simpa using hq) (by omega)
theorem qH4 (ks : List ByteArray) (ms : List Nat) (hk : ShortK ks) (hl : ks.length = ms.length) (hm : ∀ m ∈ ms, m ≤ 1000) : ∀ (j i : Nat), (ofP ks (ms.map numV) [] []).1.length - i = j → 1 ≤ i →
    Ev (fun k => hogsheadlaw15_ValueKeys.l3 k ks (ms.map numV) (i : Int) 5 false 0 ⟨#[]⟩ (ofP ks (ms.map numV) [] []).2 (ofP ks (ms.map numV) [] []).1) true := by
  obtain ⟨hT, hg, _, _⟩ := qCt ks ms hk hl hm
  have hr := (qB0 ks (ms.map numV) [] [] rfl rfl).1
  have hlen : (ofP ks (ms.map numV) [] []).1.length ≤ 100 := hT.len.2
  have hnext := qH3 ks ms hk hl hm ks.length 0 (by omega) (by omega)
  generalize (ofP ks (ms.map numV) [] []).1 = KK at *
  generalize (ofP ks (ms.map numV) [] []).2 = VV at *
  intro j
  induction j with
  | zero =>
    intro i hj hi
    obtain ⟨K, hK⟩ := hnext
    refine ⟨K + 1, fun k hk' => ?_⟩
    obtain ⟨k, rfl⟩ : ∃ m, k = m + 1 := ⟨k - 1, by omega⟩
    have hK := hK k (by omega)
    simp only [hogsheadlaw15_ValueKeys.l3]
    rw [if_neg (by omega)]
    exact hK
  | succ j ih =>
    intro i hj hi
    have hlt : i < KK.length := by omega
    obtain ⟨K, hK⟩ := ih (i + 1) (by omega) (by omega)
    refine ⟨K + 1, fun k hk' => ?_⟩
    obtain ⟨k, rfl⟩ : ∃ m, k = m + 1 := ⟨k - 1, by omega⟩
    have hK := hK k (by omega)
    simp only at hK
    have E1 : Aside0 (wrap64 ((i : Int) - 1) = ((i - 1 : Nat) : Int)) := ⟨qBk (by omega) (by omega)⟩
    have E3 : Aside0 (wrap64 ((i : Int) + 1) = ((i + 1 : Nat) : Int)) := ⟨qBk (by omega) (by omega)⟩
    have hless := qEk KK hr (i - 1) i hlt (by omega)
    simp only [hogsheadlaw15_ValueKeys.l3]
    rw [if_pos (by omega), E1.out, if_pos (by omega), if_pos (by omega), if_pos (by omega), qAs KK (i - 1) (by omega), qAs KK i hlt, if_pos (show Op.bytesLess (KK[i - 1]'(by omega)).toList KK[i].toList = true from hless), E3.out]
    exact hK
theorem qG0 (ks : List ByteArray) (ms : List Nat) (hk : ShortK ks) (hl : ks.length = ms.length) (hm : ∀ m ∈ ms, m ≤ 1000) (p : Bool) (hp : p = true → ks.Nodup) (i : Int) (hi : i < 0) :
    Ev (fun k => hogsheadlaw15_ValueKeys.l1 k ks (ms.map numV) (ms.map numV).reverse ks.reverse p i) true := by
  obtain ⟨hT, hg, hnum, K1, h1⟩ := qCt ks ms hk hl hm
  have hmay := qD6 hT
  rw [hg] at hmay
  obtain ⟨g1, g2, g3⟩ := qB0 ks (ms.map numV) [] [] rfl rfl
  obtain ⟨K2, h2⟩ := qH4 ks ms hk hl hm ((ofP ks (ms.map numV) [] []).1.length - 1) 1 rfl (by omega)
  have hlv : ks.length = (ms.map numV).length := by rw [List.length_map]; exact hl
  have hkr : ShortK ks.reverse := ⟨by rw [List.length_reverse]; exact hk.1, fun s hs => hk.2 s (List.mem_reverse.1 hs)⟩
  obtain ⟨_, _, _, K3, h3⟩ := qCt ks.reverse ms.reverse hkr (by simp [hl]) (fun m hm' => hm m (List.mem_reverse.1 hm'))
  rw [List.map_reverse] at h3
  simp only [objKV] at hmay
  cases p with
  | true =>
    have hn := hp rfl
    have hlen := qDu ks (ms.map numV) [] [] rfl hlv hn (fun k _ h => by cases h)
    rw [List.length_nil, Nat.zero_add] at hlen
    have hsame := qHm (qGa (vs := ms.map numV) hn hlv)
    rw [← hsame] at h3
    have hsv := qFn hT hT
    have hsb : sameB (objKV (ofP ks (ms.map numV) [] [])) (objKV (ofP ks (ms.map numV) [] [])) = true := by
      unfold sameB
      rw [hg, (qDc 16 _ _ hg).2 rfl]
      rfl
    rw [hsb] at hsv
    simp only [objKV] at hsv
    refine ⟨K1 + K2 + K3 + 2, fun k hk' => ?_⟩
    obtain ⟨k, rfl⟩ : ∃ m, k = m + 2 := ⟨k - 2, by omega⟩
    have h1 := h1 (k + 1) (by omega)
    have h2 := h2 k (by omega)
    have h3 := h3 (k + 1) (by omega)
    simp only at h1 h2 h3
    simp only [hogsheadlaw15_ValueKeys.l1]
    rw [if_neg (by omega), h1]
    simp only [Option.bind_some]
    rw [hmay]
    simp only [Option.bind_some]
    rw [if_pos trivial, if_pos trivial, if_pos (by omega), if_pos trivial, if_pos (by omega), h3]
    simp only [Option.bind_some]
    rw [hsv]
    simp only [Option.bind_some, hogsheadlaw15_ValueKeys.j4]
    rw [if_neg (by decide)]
    exact h2
  | false =>
    refine ⟨K1 + K2 + K3 + 2, fun k hk' => ?_⟩
    obtain ⟨k, rfl⟩ : ∃ m, k = m + 2 := ⟨k - 2, by omega⟩
    have h1 := h1 (k + 1) (by omega)
    have h2 := h2 k (by omega)
    simp only at h1 h2
    simp only [hogsheadlaw15_ValueKeys.l1]
    rw [if_neg (by omega), h1]
    simp only [Option.bind_some]
    rw [hmay]
    simp only [Option.bind_some]
    rw [if_pos trivial, if_pos trivial, if_pos (by omega), if_neg (by decide)]
    simp only [hogsheadlaw15_ValueKeys.j4]
    rw [if_neg (by decide)]
    exact h2
theorem qEc (c : Nat) (h : c ≤ 1000) : wrap64 ((c : Int) - 1) = (c : Int) - 1 := by unfold wrap64; omega
theorem qFv {α : Type} (l : List α) (c : Nat) (h : c < l.length) : (l.drop (c + 1)).reverse ++ [l[c]] = (l.drop c).reverse := by
  rw [List.drop_eq_getElem_cons h, List.reverse_cons]
theorem qH5 (ks : List ByteArray) (ms : List Nat) (hk : ShortK ks) (hl : ks.length = ms.length) (hm : ∀ m ∈ ms, m ≤ 1000) : ∀ (c : Nat) (p : Bool), c ≤ ks.length → (p = true → ∀ (a b : Nat) (hb : b < ks.length), c ≤ b → (hab : a < b) → ks[a]'(by omega) ≠ ks[b]) →
    Ev (fun k => hogsheadlaw15_ValueKeys.l1 k ks (ms.map numV) ((ms.map numV).drop c).reverse (ks.drop c).reverse p ((c : Int) - 1)) true := by
  have hkl := hk.1
  intro c
  induction c with
  | zero =>
    intro p _ hp
    have := qG0 ks ms hk hl hm p (fun h => by
      have h := hp h
      rw [List.nodup_iff_pairwise_ne, List.pairwise_iff_getElem]
      exact fun a b ha hb hab => h a b hb (by omega) hab) (((0 : Nat) : Int) - 1) (by omega)
    rw [List.drop_zero, List.drop_zero]
    exact this
  | succ c ih =>
    intro p hc hp
    have hlt : c < ks.length := by omega
    have hltv : c < (ms.map numV).length := by rw [List.length_map]; omega
    have hl2 : ∀ (j q : Nat) (p' : Bool), c - q = j → (hq : q ≤ c) → (p' = true → p = true ∧ ∀ a, (h : a < q) → ks[a]'(by omega) ≠ ks[c]) →
        Ev (fun k => hogsheadlaw15_ValueKeys.l2 k ks (ms.map numV) ((ms.map numV).drop c).reverse (ks.drop c).reverse p' (c : Int) (q : Int)) true := by
      intro j
      induction j with
      | zero =>
        intro q p' hj hq hp'
        obtain ⟨K, hK⟩ := ih p' (by omega) (fun h a b hb hcb hab => by
          obtain ⟨h1, h2⟩ := hp' h
          by_cases e : b = c
          · subst e; exact h2 a (by omega)
          · exact hp h1 a b hb (by omega) hab)
        refine ⟨K + 1, fun k hk' => ?_⟩
        obtain ⟨k, rfl⟩ : ∃ m, k = m + 1 := ⟨k - 1, by omega⟩
        have hK := hK k (by omega)
        simp only at hK
        simp only [hogsheadlaw15_ValueKeys.l2]
        rw [if_neg (by omega), qEc c (by omega)]
        exact hK
      | succ j ihj =>
        intro q p' hj hq hp'
        have E3 : Aside0 (wrap64 ((q : Int) + 1) = ((q + 1 : Nat) : Int)) := ⟨qBk (by omega) (by omega)⟩
        cases p' with
        | false =>
          obtain ⟨K, hK⟩ := ihj (q + 1) false (by omega) (by omega) (fun h => by cases h)
          refine ⟨K + 1, fun k hk' => ?_⟩
          obtain ⟨k, rfl⟩ : ∃ m, k = m + 1 := ⟨k - 1, by omega⟩
          have hK := hK k (by omega)
          simp only at hK
          simp only [hogsheadlaw15_ValueKeys.l2]
          rw [if_pos (by omega), if_neg (by decide), E3.out]
          exact hK
        | true =>
          obtain ⟨h1, h2⟩ := hp' rfl
          obtain ⟨K, hK⟩ := ihj (q + 1) ((ks[q]'(by omega)).toList != ks[c].toList) (by omega) (by omega) (fun h => ⟨h1, fun a ha => by
            by_cases e : a = q
            · subst e
              intro e2
              rw [e2] at h
              simp at h
            · exact h2 a (by omega)⟩)
          refine ⟨K + 1, fun k hk' => ?_⟩
          obtain ⟨k, rfl⟩ : ∃ m, k = m + 1 := ⟨k - 1, by omega⟩
          have hK := hK k (by omega)
          simp only at hK
          simp only [hogsheadlaw15_ValueKeys.l2]
          rw [if_pos (by omega), if_pos trivial, if_pos (by omega), if_pos (by omega), if_pos (by omega), if_pos (by omega), qAs ks q (by omega), qAs ks c hlt, E3.out]
          exact hK
    obtain ⟨K, hK⟩ := hl2 c 0 p (by omega) (by omega) (fun h => ⟨h, fun a ha => by omega⟩)
    refine ⟨K + 1, fun k hk' => ?_⟩
    obtain ⟨k, rfl⟩ : ∃ m, k = m + 1 := ⟨k - 1, by omega⟩
    have hK := hK k (by omega)
    have e1 : ((c + 1 : Nat) : Int) - 1 = (c : Int) := by omega
    simp only at hK
    show hogsheadlaw15_ValueKeys.l1 _ _ _ _ _ _ (((c + 1 : Nat) : Int) - 1) = _
    rw [e1]
    simp only [hogsheadlaw15_ValueKeys.l1]
    have e2 : (((ms.map numV).drop (c + 1)).reverse ++ [(⟨(rd_T25 (ms.map numV) (c : Int)).f0, (rd_T25 (ms.map numV) (c : Int)).f1, (rd_T25 (ms.map numV) (c : Int)).f2, (rd_T25 (ms.map numV) (c : Int)).f3, (rd_T25 (ms.map numV) (c : Int)).f4, (rd_T25 (ms.map numV) (c : Int)).f5⟩ : S25)]) = ((ms.map numV).drop c).reverse := by
      rw [← qFv (ms.map numV) c hltv, qCj (ms.map numV) c hltv]; generalize (ms.map numV)[c] = xx; cases xx; rfl
    have hb1 : ((ks.drop (c + 1)).reverse).length < 8796093022208 := by rw [List.length_reverse, List.length_drop]; omega
    have hb2 : (((ms.map numV).drop (c + 1)).reverse).length < 1599289640401 := by rw [List.length_reverse, List.length_drop, List.length_map]; omega
    rw [if_pos (by omega), if_pos (by omega), if_pos (by omega), if_pos hb1, if_pos (by omega), if_pos hb2, e2, qAs ks c hlt, qFv ks c hlt]
    exact hK
theorem qEd (ks : List ByteArray) (ns : List Int) : Ev (fun k => hogsheadlaw15_ValueKeys.f k ks ns) true := by
  obtain ⟨K0, h0⟩ := qC5
  have hT : Ev (fun k => hogsheadlaw15_ValueKeys.j0 k ks ns true) true := by
    refine ⟨K0 + 1, fun k hk => ?_⟩
    obtain ⟨k, rfl⟩ : ∃ m, k = m + 1 := ⟨k - 1, by omega⟩
    have h0 := h0 k (by omega)
    simp only at h0
    simp only [hogsheadlaw15_ValueKeys.j0]
    rw [if_pos trivial, h0]
    rfl
  obtain ⟨Kt, hKt⟩ := hT
  obtain ⟨K1, h1⟩ := qD8 ks 12 100 (by omega)
  by_cases c : (ks.length : Int) > 12 ∨ ∃ s ∈ ks, (s.size : Int) > 100
  · rw [decide_eq_true c] at h1
    refine ⟨Kt + K1, fun k hk => ?_⟩
    have h1 := h1 k (by omega)
    simp only at h1
    show hogsheadlaw15_ValueKeys.f k ks ns = _
    unfold hogsheadlaw15_ValueKeys.f
    rw [h1]
    exact hKt k (by omega)
  · rw [decide_eq_false c] at h1
    have hk : ShortK ks := ⟨by
      have h' : ¬ ((ks.length : Int) > 12) := fun h => c (.inl h)
      clear c; omega, fun s hs => by
      have h' : ¬ ((s.size : Int) > 100) := fun h => c (.inr ⟨s, hs, h⟩)
      clear c; omega⟩
    by_cases hl : ns.length = ks.length
    · have hkl := hk.1
      obtain ⟨K2, h2⟩ := qH6 ks ns hl hkl ks.length 0 [] (by omega) (by omega) rfl (fun m h => by cases h) (fun ms hml hmm => by
        have := qH5 ks ms hk hml.symm hmm ks.length true (by omega) (fun _ a b hb hc hab => by omega)
        rw [List.drop_of_length_le (by rw [List.length_map]; omega), List.drop_of_length_le (Nat.le_refl _)] at this
        rw [qEc ks.length (by omega)]
        exact this)
      refine ⟨K1 + K2 + 1, fun k hk => ?_⟩
      obtain ⟨k, rfl⟩ : ∃ m, k = m + 1 := ⟨k - 1, by omega⟩
      have h1 := h1 (k + 1) (by omega)
      have h2 := h2 k (by omega)
      simp only at h1
      show hogsheadlaw15_ValueKeys.f (k + 1) ks ns = _
      unfold hogsheadlaw15_ValueKeys.f
      rw [h1]
      simp only [Option.bind_some]
      have e : ((ns.length : Int) != (ks.length : Int)) = false := by rw [hl]; simp
      rw [if_neg (by decide), e]
      simp only [hogsheadlaw15_ValueKeys.j0]
      rw [if_neg (by decide)]
      exact h2
    · refine ⟨Kt + K1, fun k hk => ?_⟩
      have h1 := h1 k (by omega)
      simp only at h1
      show hogsheadlaw15_ValueKeys.f k ks ns = _
      unfold hogsheadlaw15_ValueKeys.f
      rw [h1]
      simp only [Option.bind_some]
      have e : ((ns.length : Int) != (ks.length : Int)) = true := by rw [bne_iff_ne]; omega
      rw [if_neg (by decide), e]
      exact hKt k (by omega)
end Go.Proofs.YtbnoihpooeombaaDoor.X
