/- Part 1 of what is behind the row RowBlobsOrder: WWords, WLast, WMore, XT, Shelf, XR0, XD, XPG, WEqStruct, WRepsOne, P0, XVP, XVC, XVQ, XVO, XVS, XVL, XRO, Pf28, XVN, X1, Pf98, XVH, XVR, XVI, XVJ, XVW, Pf32, XVB, XVPB, XVML, XWA, XWB, Pf91, Pf63, Pf62, X2, XWC, XWD, XWE, XWF, XWH, XWI, XWP, XWJ, Pe0, Pf41, XWL, XWM, XWN, XWO, XWQ. -/
import Derived.Below
import Derived.Deep.Draws
import Derived.Deep.AppendLies
import Derived.Maps.AppendAt
import Derived.OwnWalk
import Derived.Laws.BytesArg
import Derived.Laws.MakeOwn
import Derived.Laws.OwnMore
import Derived.Deep.OwnRows
import Derived.Tactics
import Derived.Lib.ConvBytes
import Derived.Laws.Slices
import Derived.WalkKit
import Derived.KernelRfl
import Derived.RowKit3
import Derived.Deep.LoopGhost
import Derived.Deep.QuietTactic
import Derived.BigQuiet
import Derived.WideLaws
import Derived.Deep.DeepCutAuto
import Derived.Deep.CutBlock
import Derived.Deep.RegionHeld3
import Derived.Laws.Rows
import Derived.Lib.AppendStr
import Derived.ArgAppend
import Derived.Laws.IdiomCopy
import Derived.RowKit
import Derived.OrdersHeld
import Derived.Laws.BitsLemmas
import Derived.Test.YtbnoihpooeombaaDoorProg
import Derived.Lib.ItoaNum
import Derived.Lib.ItoaMem
import Derived.Shelf.Strings.Builder1
import Derived.Shelf.Strings.Builder2
import Derived.Shelf.Strings.OnBuilder
import Derived.Shelf.Strings.BuilderF
import Derived.Shelf.Strings.BuilderK
import Derived.Shelf.Strconv.Itoa0
import Derived.Shelf.Strconv.Itoa1
import Derived.Shelf.LaysM
import Derived.Shelf.Strconv.Itoa2
import Derived.Shelf.Strconv.Itoa3
import Derived.Shelf.Strings.Prefix
import Derived.Shelf.Bits.Mul64
import Derived.Shelf.Strings.Repeat
import Derived.Test.YtbnoihpooeombaaDoorRows
import Derived.ProofKit
import Derived.OpenShut
import Derived.ShutString
import Derived.SizedLaws
import Derived.Deep.DeepHandedRow
import Derived.Lib.LaidTab
import Derived.LaidMore
import Derived.Stop.Joined
import Derived.ChangeSlices
import Derived.Lib.IndexMore
import Derived.Lib.Bytealg
import Derived.Laws.BitsAllLaws
import Derived.Lib.Repeat
import Derived.Laws.StructEq
import Derived.Laws.Cover1
import Derived.Deep.AppendSrc
import Derived.Lib.SliceRun
import Derived.Outline
import Derived.WalkLawsBesides
import Derived.WalkSpells
import Derived.LoopTactic
import Derived.Lib.Hide
import Derived.Deep.DeepMust
import Derived.Lib.ItoaLen
import Derived.SliceStrings
import Derived.Deep.Slices
import Derived.Laws.Bits64b
import Derived.Laws.NewBlocks
import Derived.Lib.AppendIntMem
import Derived.Lib.AppendZerosOnto
import Derived.Lib.Overlaps
import Derived.Laws.Externs
import Derived.Laws.CopyOwn
import Derived.Shelf.RegionOpenPlain
import Derived.Deep.RegionLaw
import Derived.Deep.RegionWith
namespace Go.Proofs.YtbnoihpooeombaaDoor.P
end Go.Proofs.YtbnoihpooeombaaDoor.P
namespace Go.Proofs.YtbnoihpooeombaaDoor.X
end Go.Proofs.YtbnoihpooeombaaDoor.X
namespace Go.Proofs.YtbnoihpooeombaaDoorW.PrintLast
end Go.Proofs.YtbnoihpooeombaaDoorW.PrintLast
namespace Go.Proofs.YtbnoihpooeombaaDoorW.PrintMore
end Go.Proofs.YtbnoihpooeombaaDoorW.PrintMore
namespace Go.Proofs.YtbnoihpooeombaaDoorW.PrintWords
end Go.Proofs.YtbnoihpooeombaaDoorW.PrintWords
set_option linter.unusedVariables false
set_option linter.unusedSimpArgs false
namespace Go.Proofs.YtbnoihpooeombaaDoorW.PrintWords
open Go.RowKit
structure Aside0 (p : Prop) : Prop where mk :: (out : p)
structure Drawn0 (w w' : World) : Prop where mk :: (out : ∃ n, w' = w.drewN n)
theorem Drawn0.refl (w : World) : Drawn0 w w := ⟨⟨0, rfl⟩⟩
theorem Drawn0.step {w w' : World} (h : Drawn0 w w') (n : Nat) : Drawn0 w (w'.drewN n) := by
  obtain ⟨m, rfl⟩ := h
  exact ⟨⟨m + n, World.drewN_drewN ..⟩⟩
theorem Drawn0.below {w w' : World} (h : Drawn0 w w') : Below w.heap.size w w' := by
  obtain ⟨n, rfl⟩ := h
  induction n with
  | zero => exact Below.refl _ _
  | succ n ih => rw [← World.drew_drewN]; exact ih.drew
def rd (xs : List Int) (i : Int) : Int := xs.getD i.toNat 0
theorem qAc {w W : World} (h : Below w.heap.size w W) (o : Obj) : Below w.heap.size w (W.alloc o) := h.alloc h.size o
theorem qAh {B : Nat} {w W : World} (h : Below B w W) (n : Nat) : Below B w (W.drewN n) := ⟨h.os, h.tape, h.output, h.size, h.block⟩
theorem qDw {B : Nat} {w w1 w2 : World} (h : Below B w w1) (hB : B ≤ w1.heap.size) (k : Below w1.heap.size w1 w2) : Below B w w2 :=
  h.trans ⟨k.os, k.tape, k.output, k.size, fun i hi => k.block i (Nat.lt_of_lt_of_le hi hB)⟩
theorem qAb {w w1 : World} (h : Below w.heap.size w w1) {a : Addr} {v : Value} (hc : w.cell? a = some v) : w1.cell? a = some v := (h.cell (World.block_lt_of_cell? w a hc)).trans hc
theorem qA2 (g j : Nat) : (⟨g, 0, none⟩ : Addr).add j = ⟨g, j, none⟩ := by unfold Addr.add; split <;> simp_all
theorem qEq (W : World) (base : Nat) (e : TypeId) (size : Nat) : W.ownsRow base e size (.slice none 0 0) 0 [] := ⟨by simp, .inl ⟨rfl, rfl⟩⟩
theorem qA8 {w : World} {base : Nat} {e : TypeId} {size n : Nat} {v : Value} {xs : List Value} (h : w.ownsRow base e size v n xs) (k : Nat) (hk : v.ownBlock = some k) : base ≤ k := by
  rcases h.2 with ⟨rfl, _⟩ | ⟨g, cap, cur, rfl, hb, _⟩
  · simp [Value.ownBlock] at hk
  · have : g = k := by simpa [Value.ownBlock] using hk
    omega
theorem own_lt {w : World} {base : Nat} {e : TypeId} {size n : Nat} {v : Value} {xs : List Value} (h : w.ownsRow base e size v n xs) (k : Nat) (hk : v.ownBlock = some k) : k < w.heap.size := by
  rcases h.2 with ⟨rfl, _⟩ | ⟨g, cap, cur, rfl, hb, hh, _⟩
  · simp [Value.ownBlock] at hk
  · have : g = k := by simpa [Value.ownBlock] using hk
    subst this
    exact (Array.getElem?_eq_some_iff.1 hh).1
def qAr (s : ByteArray) : List Int := s.data.toList.map fun b => (b.toNat : Int)
theorem qB5 (s : ByteArray) : s.data.toList.length = s.size := by rw [Array.length_toList]; rfl
theorem qA0 (s : ByteArray) : (qAr s).length = s.size := by rw [qAr, List.length_map, qB5]
def LeO {α : Type} (a b : Option α) : Prop := ∀ r, a = some r → b = some r
theorem LeO.trans {α : Type} {a b c : Option α} (h : LeO a b) (k : LeO b c) : LeO a c := fun r hr => k r (h r hr)
def Reps {α : Type} (R : α → List Value → Prop) (size : Nat) (ps : List α) (cs : List Value) : Prop :=
  cs.length = ps.length * size ∧ ∀ j p, ps[j]? = some p → R p ((cs.drop (j * size)).take size)
theorem Reps.none {α : Type} (R : α → List Value → Prop) (size : Nat) : Reps R size [] [] := ⟨by simp, fun j p h => by simp at h⟩
theorem Reps.snoc {α : Type} {R : α → List Value → Prop} {size : Nat} {ps : List α} {cs c : List Value} {p : α} (h : Reps R size ps cs) (hp : R p c) (hc : c.length = size) : Reps R size (ps ++ [p]) (cs ++ c) := by
  refine ⟨by rw [List.length_append, h.1, hc, List.length_append, List.length_singleton, Nat.add_mul, Nat.one_mul], fun j q hq => ?_⟩
  rcases Nat.lt_or_ge j ps.length with hj | hj
  · rw [List.getElem?_append_left hj] at hq
    have h1 : j * size + size ≤ cs.length := by rw [h.1, ← Nat.succ_mul]; exact Nat.mul_le_mul_right _ hj
    have h2 := h.2 j q hq
    rw [List.drop_append_of_le_length (by omega), List.take_append_of_le_length (by rw [List.length_drop]; omega)]
    exact h2
  · have hj' : j = ps.length := by
      have := (List.getElem?_eq_some_iff.1 hq).1
      rw [List.length_append, List.length_singleton] at this
      omega
    subst hj'
    have hq' : p = q := by simpa using hq
    subst hq'
    rw [← h.1, List.drop_left, ← hc, List.take_length]
    exact hp
theorem Reps.imp_ {α : Type} {R R' : α → List Value → Prop} {size : Nat} {ps : List α} {cs : List Value} (h : Reps R size ps cs) (hR : ∀ p c, R p c → R' p c) : Reps R' size ps cs := ⟨h.1, fun j p hj => hR _ _ (h.2 j p hj)⟩
def qAp {α : Type} (R : α → List Value → Prop) (size : Nat) (w : World) (A : Option Addr) (n : Nat) (ps : List α) : Prop :=
  ps.length = n ∧ n ≤ 9223372036854775807 ∧ (0 < n → ∃ ad, A = some ad ∧ ∀ j p, ps[j]? = some p → ∃ c, c.length = size ∧ R p c ∧ ∀ i u, c[i]? = some u → w.cell? (ad.add (j * size + i)) = some u)
theorem qAp.get_ {α : Type} {R : α → List Value → Prop} {size : Nat} {w : World} {A : Option Addr} {n : Nat} {ps : List α} (h : qAp R size w A n ps) (d : α) (i : Int) (h0 : 0 ≤ i) (h1 : i < n) :
    ∃ ad c, A = some ad ∧ c.length = size ∧ R (ps.getD i.toNat d) c ∧ ∀ j u, c[j]? = some u → w.cell? (ad.add (i.toNat * size + j)) = some u := by
  obtain ⟨ad, e, hc⟩ := h.2.2 (by omega)
  have hl : i.toNat < ps.length := by have := h.1; omega
  obtain ⟨c, hs, hr, hcell⟩ := hc i.toNat _ (List.getElem?_eq_getElem hl)
  refine ⟨ad, c, e, hs, ?_, hcell⟩
  rw [List.getD_eq_getElem?_getD, List.getElem?_eq_getElem hl]
  exact hr
theorem qAp.imp_ {α : Type} {R R' : α → List Value → Prop} {size : Nat} {w w1 : World} {A : Option Addr} {n : Nat} {ps : List α} (h : qAp R size w A n ps) (hb : Below w.heap.size w w1) (hR : ∀ p c, R p c → R' p c) : qAp R' size w1 A n ps :=
  ⟨h.1, h.2.1, fun hn => by
    obtain ⟨ad, e, hc⟩ := h.2.2 hn
    refine ⟨ad, e, fun j p hj => ?_⟩
    obtain ⟨c, hs, hr, hcell⟩ := hc j p hj
    exact ⟨c, hs, hR _ _ hr, fun i u hu => qAb hb (hcell i u hu)⟩⟩
theorem qAi {α : Type} {R : α → List Value → Prop} {w : World} {base n size : Nat} {e : TypeId} {v : Value} {ps : List α} {cs : List Value} (h : w.ownsRow base e size v n cs) (hR : Reps R size ps cs) (hn : ps.length = n) :
    ∃ A c, v = .slice A n c ∧ qAp R size w A n ps := by
  rcases Nat.eq_zero_or_pos n with h0 | h0
  · rcases h.2 with ⟨rfl, rfl⟩ | ⟨g, cap, cur, rfl, _⟩
    · exact ⟨none, 0, rfl, hn, by omega, fun hp => absurd hp (by omega)⟩
    · exact ⟨_, cap, rfl, hn, by omega, fun hp => absurd hp (by omega)⟩
  · obtain ⟨g, cap, rfl, _, _⟩ := h.form h0
    have hm : n ≤ 9223372036854775807 := by
      rcases h.2 with ⟨_, h1⟩ | ⟨g', cap', cur, he, _, _, h1, h2, _⟩
      · omega
      · simp only [maxLen] at h2
        omega
    refine ⟨_, cap, rfl, hn, hm, fun _ => ⟨_, rfl, fun j p hj => ⟨(cs.drop (j * size)).take size, ?_, hR.2 j p hj, fun i u hu => ?_⟩⟩⟩
    · have hjl := (List.getElem?_eq_some_iff.1 hj).1
      have h1 : j * size + size ≤ cs.length := by rw [hR.1, ← Nat.succ_mul]; exact Nat.mul_le_mul_right _ hjl
      rw [List.length_take, List.length_drop]
      omega
    · refine h.cells (g := g) rfl _ u ?_
      rw [List.getElem?_take] at hu
      split at hu
      · rw [List.getElem?_drop] at hu
        exact hu
      · cases hu
theorem qEd (ad : Addr) (m j : Nat) (hj : 0 < j) : ad.add (m + j) = ⟨(ad.add m).block, (ad.add m).off + j, none⟩ := by
  unfold Addr.add
  by_cases hm : m = 0
  · subst hm
    simp [Nat.ne_of_gt hj]
  · simp [hm, Nat.add_assoc]
theorem own_ne {w : World} {base : Nat} {e t : TypeId} {size n g : Nat} {v : Value} {xs : List Value} {cs : Array Value} (h : w.ownsRow base e size v n xs) (hg : w.heap[g]? = some (.cells cs t (0, 0))) (hne : e ≠ t) : some g ≠ v.ownBlock := by
  rcases h.2 with ⟨rfl, _⟩ | ⟨g', cap, cur, rfl, _, hh, _⟩
  · simp [Value.ownBlock]
  · intro he
    have : g = g' := by simpa [Value.ownBlock] using he
    subst this
    rw [hg] at hh
    injection hh with hh
    injection hh with _ ht
    exact hne ht.symm
theorem blk_lt {w : World} {g : Nat} {o : Obj} (h : w.heap[g]? = some o) : g < w.heap.size := (Array.getElem?_eq_some_iff.1 h).1
theorem qAz {w : World} {g : Nat} {t : TypeId} {cs : Array Value} (h : w.heap[g]? = some (.cells cs t (0, 0))) (i : Nat) : w.cell? ⟨g, i, none⟩ = cs[i]? := cell_of_row w g i cs t (0, 0) h
theorem qBm {w : World} {g : Nat} {t : TypeId} {cs : Array Value} (h : w.heap[g]? = some (.cells cs t (0, 0))) (i : Nat) : w.frozen? ⟨g, i, none⟩ = false := by simp [World.frozen?, h]
def qCv (w w' : World) (g : Nat) (row : Option Nat) : Prop := w.heap.size ≤ w'.heap.size ∧ ∀ i, i < w.heap.size → i ≠ g → some i ≠ row → w'.heap[i]? = w.heap[i]?
theorem qCv.trans {w w1 w2 : World} {g : Nat} {row row1 : Option Nat} (h : qCv w w1 g row) (k : qCv w1 w2 g row1) (hr : row1 = row ∨ ∃ b, row1 = some b ∧ w.heap.size ≤ b) : qCv w w2 g row :=
  ⟨Nat.le_trans h.1 k.1, fun i hi hg hn => by
    refine (k.2 i (Nat.lt_of_lt_of_le hi h.1) hg ?_).trans (h.2 i hi hg hn)
    rcases hr with rfl | ⟨b, rfl, hb⟩
    · exact hn
    · intro e
      injection e with e
      omega⟩
def Ev {α : Type} (g : Nat → Option α) (r : α) : Prop := ∃ K, ∀ k, K ≤ k → g k = some r
theorem qCg {w : World} {base base' : Nat} {e : TypeId} {size n : Nat} {v : Value} {xs : List Value} (h : w.ownsRow base e size v n xs) (hb : base' ≤ base) : w.ownsRow base' e size v n xs := by
  obtain ⟨h1, h2⟩ := h
  refine ⟨h1, ?_⟩
  rcases h2 with h2 | ⟨g, cap, cur, rfl, hg, r⟩
  · exact .inl h2
  · exact .inr ⟨g, cap, cur, rfl, Nat.le_trans hb hg, r⟩
section
variable {α : Type} {enc : α → Value} {d : α}
def rdOf (d : α) (xs : List α) (i : Int) : α := xs.getD i.toNat d
def qBn (enc : α → Value) (d : α) (w : World) (A : Option Addr) (n : Nat) (xs : List α) : Prop :=
  xs.length = n ∧ n ≤ 9223372036854775807 ∧ (0 < n → ∃ ad, A = some ad ∧ ∀ j, j < n → w.cell? (ad.add j) = some (enc (xs.getD j d)))
theorem qBn.at_ {w : World} {A : Option Addr} {n : Nat} {xs : List α} (h : qBn enc d w A n xs) (i : Int) (h0 : 0 ≤ i) (h1 : i < n) : ∃ ad, A = some ad ∧ w.cell? (ad.add i.toNat) = some (enc (rdOf d xs i)) := by
  obtain ⟨ad, e, hc⟩ := h.2.2 (by omega)
  exact ⟨ad, e, hc _ (by omega)⟩
end
theorem qC6 {w w1 : World} {g : Nat} {o : Obj} (h : w.heap[g]? = some o) (hb : Below w.heap.size w w1) : w1.heap[g]? = some o := (hb.block g (blk_lt h)).trans h
theorem qBf (w : World) (o : Obj) : (w.alloc o).heap[w.heap.size]? = some o := heap_alloc_new w o
theorem own_le {w : World} {base n m c size : Nat} {e : TypeId} {A : Option Addr} {xs : List Value} (h : w.ownsRow base e size (.slice A m c) n xs) : m ≤ c := by
  rcases h.2 with ⟨he, _⟩ | ⟨g, cap, cur, he, _, _, hnc, _⟩
  · injection he with _ h2 h3
    omega
  · injection he with _ h2 h3
    omega
def OwnRow {α : Type} (R : α → List Value → Prop) (e : TypeId) (size : Nat) (w : World) (base : Nat) (v : Value) (ps : List α) : Prop :=
  ∃ inner, w.ownsRow base e size v ps.length inner ∧ Reps R size ps inner
section
variable {α : Type} {R R' : α → List Value → Prop} {e : TypeId} {size : Nat} {w w1 : World} {base : Nat} {v : Value} {ps : List α}
theorem OwnRow.imp_ (h : OwnRow R e size w base v ps) (hR : ∀ p c, R p c → R' p c) : OwnRow R' e size w base v ps := by
  obtain ⟨inner, ho, hr⟩ := h
  exact ⟨inner, ho, hr.imp_ hR⟩
theorem OwnRow.reads (h : OwnRow R e size w base v ps) : ∃ A c, v = .slice A ps.length c ∧ ps.length ≤ c ∧ qAp R size w A ps.length ps := by
  obtain ⟨inner, ho, hr⟩ := h
  obtain ⟨A, c, rfl, hrow⟩ := qAi ho hr rfl
  exact ⟨A, c, rfl, own_le ho, hrow⟩
end
structure Kd (α : Type) where
  sz : Nat
  E : List Nat
  K : World → α → List Value → Prop
  M : World → Nat → (Nat → Prop) → α → List Value → Prop
  K_len : ∀ {w x cs}, K w x cs → cs.length = sz
  K_one : ∀ {w x cs}, K w x cs → ∀ u ∈ cs, u.oneCell' = true
  K_below : ∀ {w w1 : World} {x cs}, Below w.heap.size w w1 → K w x cs → K w1 x cs
  K_of_M : ∀ {w base ok x cs}, M w base ok x cs → K w x cs
  M_mono : ∀ {w base ok ok' x cs}, (∀ k, ok k → ok' k) → M w base ok x cs → M w base ok' x cs
  M_bound : ∀ {w : World} {base ok x cs}, M w base ok x cs → M w base (fun k => ok k ∧ base ≤ k ∧ k < w.heap.size ∧ ∃ q, q ∈ E ∧ ∃ cells, w.heap[k]? = some (.cells cells q (0, 0))) x cs
  M_move : ∀ {w w1 : World} {base ok x cs}, (∀ k, ok k → w1.heap[k]? = w.heap[k]?) → M w base ok x cs → M w1 base ok x cs
  M_lower : ∀ {w base base' ok x cs}, base' ≤ base → M w base ok x cs → M w base' ok x cs
theorem qCq {w w1 : World} {base : Nat} {e : TypeId} {size n : Nat} {v : Value} {xs : List Value} (h : w.ownsRow base e size v n xs) (hm : ∀ k, v.ownBlock = some k → w1.heap[k]? = w.heap[k]?) : w1.ownsRow base e size v n xs := by
  obtain ⟨h1, h2⟩ := h
  refine ⟨h1, ?_⟩
  rcases h2 with h2 | ⟨g, cap, cur, rfl, hg, hh, r⟩
  · exact .inl h2
  · exact .inr ⟨g, cap, cur, rfl, hg, (hm g (by simp [Value.ownBlock])).trans hh, r⟩
theorem qD1 {w : World} {base : Nat} {e : TypeId} {size n : Nat} {v : Value} {xs : List Value} (h : w.ownsRow base e size v n xs) (k : Nat) (hk : v.ownBlock = some k) : ∃ cells, w.heap[k]? = some (.cells cells e (0, 0)) := by
  rcases h.2 with ⟨rfl, _⟩ | ⟨g, cap, cur, rfl, hg, hh, r⟩
  · simp [Value.ownBlock] at hk
  · have : g = k := by simpa [Value.ownBlock] using hk
    subst this
    exact ⟨cur, hh⟩
namespace Kd
def C {α : Type} (d : Kd α) (w : World) (A : Option Addr) (n : Nat) (xs : List α) : Prop := qAp (d.K w) d.sz w A n xs
def R {α : Type} (d : Kd α) (e : Nat) (w : World) (base : Nat) (ok : Nat → Prop) (v : Value) (xs : List α) : Prop :=
  (∀ k, v.ownBlock = some k → ok k) ∧ OwnRow (d.M w base (fun k => ok k ∧ some k ≠ v.ownBlock)) e d.sz w base v xs
section
variable {α : Type} {d : Kd α} {e : Nat} {w w1 : World} {base : Nat} {ok ok' : Nat → Prop} {v : Value} {xs : List α}
theorem C_below {A : Option Addr} {n : Nat} (h : d.C w A n xs) (hb : Below w.heap.size w w1) : d.C w1 A n xs := qAp.imp_ h hb (fun _ _ hp => d.K_below hb hp)
theorem R_mono (h : d.R e w base ok v xs) (hok : ∀ k, ok k → ok' k) : d.R e w base ok' v xs := ⟨fun k hk => hok k (h.1 k hk), h.2.imp_ (fun _ _ hp => d.M_mono (fun k hk => ⟨hok k hk.1, hk.2⟩) hp)⟩
theorem R_bound (h : d.R e w base ok v xs) : d.R e w base (fun k => ok k ∧ base ≤ k ∧ k < w.heap.size ∧ ∃ q, q ∈ e :: d.E ∧ ∃ cells, w.heap[k]? = some (.cells cells q (0, 0))) v xs := by
  obtain ⟨h0, inner, ho, hr⟩ := h
  refine ⟨fun k hk => ?_, inner, ho, hr.imp_ (fun _ _ hp => d.M_mono (fun k hk => ?_) (d.M_bound hp))⟩
  · obtain ⟨cells, hc⟩ := qD1 ho k hk
    exact ⟨h0 k hk, qA8 ho k hk, own_lt ho k hk, e, List.mem_cons_self, cells, hc⟩
  · obtain ⟨⟨h1, h2⟩, h3, h4, q, hq, hc⟩ := hk
    exact ⟨⟨h1, h3, h4, q, List.mem_cons_of_mem _ hq, hc⟩, h2⟩
theorem R_move (h : d.R e w base ok v xs) (hm : ∀ k, ok k → w1.heap[k]? = w.heap[k]?) : d.R e w1 base ok v xs := by
  obtain ⟨h0, inner, ho, hr⟩ := h
  exact ⟨h0, inner, qCq ho (fun k hk => hm k (h0 k hk)), hr.imp_ (fun _ _ hp => d.M_move (fun k hk => hm k hk.1) hp)⟩
theorem R_lower {base' : Nat} (h : d.R e w base ok v xs) (hb : base' ≤ base) : d.R e w base' ok v xs := by
  obtain ⟨h0, inner, ho, hr⟩ := h
  exact ⟨h0, inner, qCg ho hb, hr.imp_ (fun _ _ hp => d.M_lower hb hp)⟩
theorem R_reads (h : d.R e w base ok v xs) : ∃ A c, v = .slice A xs.length c ∧ xs.length ≤ c ∧ d.C w A xs.length xs := by
  obtain ⟨A, c, he, hl, hr⟩ := OwnRow.reads h.2
  exact ⟨A, c, he, hl, hr.imp_ (Below.refl _ _) (fun _ _ hp => d.K_of_M hp)⟩
end
def scalar {α : Type} (enc : α → Value) (h1 : ∀ x, (enc x).oneCell' = true) : Kd α where
  sz := 1
  E := []
  K := fun _ x cs => cs = [enc x]
  M := fun _ _ _ x cs => cs = [enc x]
  K_len := fun h => by rw [h]; rfl
  K_one := fun h u hu => by
    rw [h] at hu
    rw [List.mem_singleton.1 hu]
    exact h1 _
  K_below := fun _ h => h
  K_of_M := fun h => h
  M_mono := fun _ h => h
  M_bound := fun h => h
  M_move := fun _ h => h
  M_lower := fun _ h => h
def int (k : IntKind) : Kd Int := scalar (Value.int k) (fun _ => rfl)
def string : Kd ByteArray := scalar Value.string (fun _ => rfl)
def slice {α : Type} (e : Nat) (d : Kd α) : Kd (List α) where
  sz := 1
  E := e :: d.E
  K := fun w xs cs => ∃ A c, cs = [.slice A xs.length c] ∧ xs.length ≤ c ∧ d.C w A xs.length xs
  M := fun w base ok xs cs => ∃ v, cs = [v] ∧ d.R e w base ok v xs
  K_len := by
    rintro w x cs ⟨A, c, rfl, _⟩
    rfl
  K_one := by
    rintro w x cs ⟨A, c, rfl, _⟩ u hu
    rw [List.mem_singleton.1 hu]
    rfl
  K_below := by
    rintro w w1 x cs hb ⟨A, c, rfl, hl, hr⟩
    exact ⟨A, c, rfl, hl, C_below hr hb⟩
  K_of_M := by
    rintro w base ok x cs ⟨v, rfl, h⟩
    obtain ⟨A, c, rfl, hl, hr⟩ := R_reads h
    exact ⟨A, c, rfl, hl, hr⟩
  M_mono := by
    rintro w base ok ok' x cs hok ⟨v, rfl, h⟩
    exact ⟨v, rfl, R_mono h hok⟩
  M_bound := by
    rintro w base ok x cs ⟨v, rfl, h⟩
    exact ⟨v, rfl, R_bound h⟩
  M_move := by
    rintro w w1 base ok x cs hm ⟨v, rfl, h⟩
    exact ⟨v, rfl, R_move h hm⟩
  M_lower := by
    rintro w base base' ok x cs hb ⟨v, rfl, h⟩
    exact ⟨v, rfl, R_lower h hb⟩
def pair {α β : Type} (a : Kd α) (b : Kd β) : Kd (α × β) where
  sz := a.sz + b.sz
  E := a.E ++ b.E
  K := fun w x cs => ∃ c0 c1, cs = c0 ++ c1 ∧ a.K w x.1 c0 ∧ b.K w x.2 c1
  M := fun w base ok x cs => ∃ c0 c1, cs = c0 ++ c1 ∧ a.M w base ok x.1 c0 ∧ b.M w base ok x.2 c1
  K_len := by
    rintro w x cs ⟨c0, c1, rfl, h0, h1⟩
    rw [List.length_append, a.K_len h0, b.K_len h1]
  K_one := by
    rintro w x cs ⟨c0, c1, rfl, h0, h1⟩ u hu
    rcases List.mem_append.1 hu with hu | hu
    · exact a.K_one h0 u hu
    · exact b.K_one h1 u hu
  K_below := by
    rintro w w1 x cs hb ⟨c0, c1, rfl, h0, h1⟩
    exact ⟨c0, c1, rfl, a.K_below hb h0, b.K_below hb h1⟩
  K_of_M := by
    rintro w base ok x cs ⟨c0, c1, rfl, h0, h1⟩
    exact ⟨c0, c1, rfl, a.K_of_M h0, b.K_of_M h1⟩
  M_mono := by
    rintro w base ok ok' x cs hok ⟨c0, c1, rfl, h0, h1⟩
    exact ⟨c0, c1, rfl, a.M_mono hok h0, b.M_mono hok h1⟩
  M_bound := by
    rintro w base ok x cs ⟨c0, c1, rfl, h0, h1⟩
    refine ⟨c0, c1, rfl, a.M_mono ?_ (a.M_bound h0), b.M_mono ?_ (b.M_bound h1)⟩
    · rintro k ⟨h2, h3, h4, q, hq, hc⟩
      exact ⟨h2, h3, h4, q, List.mem_append_left _ hq, hc⟩
    · rintro k ⟨h2, h3, h4, q, hq, hc⟩
      exact ⟨h2, h3, h4, q, List.mem_append_right _ hq, hc⟩
  M_move := by
    rintro w w1 base ok x cs hm ⟨c0, c1, rfl, h0, h1⟩
    exact ⟨c0, c1, rfl, a.M_move hm h0, b.M_move hm h1⟩
  M_lower := by
    rintro w base base' ok x cs hb ⟨c0, c1, rfl, h0, h1⟩
    exact ⟨c0, c1, rfl, a.M_lower hb h0, b.M_lower hb h1⟩
def iso {α β : Type} (d : Kd α) (f : β → α) : Kd β where
  sz := d.sz
  E := d.E
  K := fun w x cs => d.K w (f x) cs
  M := fun w base ok x cs => d.M w base ok (f x) cs
  K_len := d.K_len
  K_one := d.K_one
  K_below := d.K_below
  K_of_M := d.K_of_M
  M_mono := d.M_mono
  M_bound := d.M_bound
  M_move := d.M_move
  M_lower := d.M_lower
theorem C_get {α : Type} {d : Kd α} {w : World} {A : Option Addr} {n : Nat} {xs : List α} (h : d.C w A n xs) (z : α) (i : Int) (h0 : 0 ≤ i) (h1 : i < n) :
    ∃ ad c, A = some ad ∧ c.length = d.sz ∧ d.K w (xs.getD i.toNat z) c ∧ ∀ j u, c[j]? = some u → w.cell? (ad.add (i.toNat * d.sz + j)) = some u := qAp.get_ h z i h0 h1
theorem C_of_reads {α : Type} {enc : α → Value} {d : α} {h1 : ∀ x, (enc x).oneCell' = true} {w : World} {A : Option Addr} {n : Nat} {xs : List α} (h : qBn enc d w A n xs) : (scalar enc h1).C w A n xs := by
  refine ⟨h.1, h.2.1, fun hn => ?_⟩
  obtain ⟨ad, e, hc⟩ := h.2.2 hn
  refine ⟨ad, e, fun j p hj => ⟨[enc p], rfl, rfl, fun i u hu => ?_⟩⟩
  obtain ⟨hl, hp⟩ := List.getElem?_eq_some_iff.1 hj
  have h2 := hc j (by have := h.1; omega)
  rw [List.getD_eq_getElem?_getD, hj] at h2
  cases i with
  | zero =>
    have : enc p = u := by simpa using hu
    subst this
    simpa [scalar] using h2
  | succ i => simp at hu
theorem reads_of_C {α : Type} {enc : α → Value} {d : α} {h1 : ∀ x, (enc x).oneCell' = true} {w : World} {A : Option Addr} {n : Nat} {xs : List α} (h : (scalar enc h1).C w A n xs) : qBn enc d w A n xs := by
  refine ⟨h.1, h.2.1, fun hn => ?_⟩
  obtain ⟨ad, e, hc⟩ := h.2.2 hn
  refine ⟨ad, e, fun j hj => ?_⟩
  have hl : j < xs.length := by have := h.1; omega
  obtain ⟨c, _, hK, hcell⟩ := hc j _ (List.getElem?_eq_getElem hl)
  have hK' : c = [enc xs[j]] := hK
  subst hK'
  have := hcell 0 _ rfl
  simpa [scalar, List.getD_eq_getElem?_getD, List.getElem?_eq_getElem hl] using this
end Kd
namespace Kd
section
variable {w W : World} {A : Option Addr} {n : Nat}
theorem at_int {k : IntKind} {xs : List Int} (h : (Kd.int k).C w A n xs) (i : Int) (h0 : 0 ≤ i) (h1 : i < n) : ∃ ad, A = some ad ∧ w.cell? (ad.add i.toNat) = some (.int k (rd xs i)) :=
  qBn.at_ (reads_of_C (enc := Value.int k) (d := (0 : Int)) (h1 := fun _ => rfl) h) i h0 h1
theorem at_string {xs : List ByteArray} (h : Kd.string.C w A n xs) (i : Int) (h0 : 0 ≤ i) (h1 : i < n) : ∃ ad, A = some ad ∧ w.cell? (ad.add i.toNat) = some (.string (rdOf ByteArray.empty xs i)) :=
  qBn.at_ (reads_of_C (enc := Value.string) (d := ByteArray.empty) (h1 := fun _ => rfl) h) i h0 h1
variable {α : Type} {enc : α → Value} {h1 : ∀ x, (enc x).oneCell' = true} {e base g cap : Nat} {ok : Nat → Prop} {xs : List α}
end
end Kd
theorem qAu {w W : World} (h : Below w.heap.size w W) : w.heap.size ≤ W.heap.size := h.size
theorem qAa {w W w2 : World} (h : Below w.heap.size w W) (k : Below W.heap.size W w2) : Below w.heap.size w w2 := qDw h h.size k
theorem qAg {base : Nat} {w W : World} (h : Below base w W) : Below base w W.drew := h.drew
end Go.Proofs.YtbnoihpooeombaaDoorW.PrintWords

namespace Go.Proofs.YtbnoihpooeombaaDoorW.PrintLast
section
variable {P : Program} {ops : Array Oper} {Q : Exit → Act → World → Prop} {md : Region.Mode} {S : World → Prop} {ds : List Nat}
def Region.reachB (md : Region.Mode) (ops : Array Oper) (i : Nat) : Nat → Nat → Bool
  | 0, _ => false
  | fuel + 1, d => match ops[d]? with
    | some o => o.after.any fun e => Region.binds md e && (e.on == i || Region.reachB md ops i fuel e.on)
    | none => false
def Region.closedB (md : Region.Mode) (ops : Array Oper) (listed : Array Bool) : Bool :=
  (List.range ops.size).all fun j => !listed.getD j false || match ops[j]? with
    | some o => o.after.all fun e => !Region.binds md e || listed.getD e.on false
    | none => true
def Region.lastB (md : Region.Mode) (ops : Array Oper) (listed : Array Bool) (ds : List Nat) (i : Nat) : Bool :=
  ds.all fun d => listed.getD d true || Region.reachB md ops i ops.size d
def qAm (md : Region.Mode) (ops : Array Oper) (listed : Array Bool) : Prop :=
  ∀ j oj, ops[j]? = some oj → listed.getD j false = true → ∀ e ∈ oj.after, Region.binds md e = true → listed.getD e.on false = true
theorem Region.closedB_spec {listed : Array Bool} (h : Region.closedB md ops listed = true) : qAm md ops listed := by
  intro j oj hj hl e he hb
  have hlt : j < ops.size := (Array.getElem?_eq_some_iff.1 hj).1
  have h1 := List.all_eq_true.1 h j (List.mem_range.2 hlt)
  simp only [hl, hj, Bool.not_true, Bool.false_or] at h1
  have h2 := Array.all_eq_true_iff_forall_mem.1 h1 e he
  simpa [hb] using h2
theorem qAm.set {listed : Array Bool} {i : Nat} (h : qAm md ops listed) (hi : i ∈ Region.ready md ops listed) : qAm md ops (listed.setIfInBounds i true) := by
  obtain ⟨_, oi, hoi, hall⟩ := mem_ready.1 hi
  intro j oj hj hl e he hb
  by_cases hij : i = j
  · subst hij
    have : oj = oi := Option.some.inj (hj.symm.trans hoi)
    subst this
    exact getD_set_true (hall e he hb)
  · rw [getD_set_ne false hij] at hl
    exact getD_set_true (h j oj hj hl e he hb)
theorem Region.reach_listed {listed : Array Bool} {i : Nat} (hc : qAm md ops listed) : ∀ (fuel d : Nat), Region.reachB md ops i fuel d = true → listed.getD d false = true → listed.getD i false = true
  | 0, _, h, _ => by simp [Region.reachB] at h
  | fuel + 1, d, h, hl => by
    unfold Region.reachB at h
    cases ho : ops[d]? with
    | none => rw [ho] at h; simp at h
    | some o =>
      rw [ho] at h
      obtain ⟨e, he, h1⟩ := Array.any_eq_true'.1 h
      simp only [Bool.and_eq_true, Bool.or_eq_true, beq_iff_eq] at h1
      have hle := hc d o ho hl e he h1.1
      rcases h1.2 with h2 | h2
      · rw [← h2]; exact hle
      · exact Region.reach_listed hc fuel e.on h2 hle
theorem Region.reach_not_ready {listed : Array Bool} {i d fuel : Nat} (hc : qAm md ops listed) (hr : Region.reachB md ops i fuel d = true) (hun : listed.getD i true = false) : d ∉ Region.ready md ops listed := by
  intro hd
  obtain ⟨_, o, ho, hall⟩ := mem_ready.1 hd
  have hi : listed.getD i false = true := by
    cases fuel with
    | zero => simp [Region.reachB] at hr
    | succ n =>
      unfold Region.reachB at hr
      rw [ho] at hr
      obtain ⟨e, he, h1⟩ := Array.any_eq_true'.1 hr
      simp only [Bool.and_eq_true, Bool.or_eq_true, beq_iff_eq] at h1
      have hle := hall e he h1.1
      rcases h1.2 with h2 | h2
      · rw [← h2]; exact hle
      · exact Region.reach_listed hc n e.on h2 hle
  rcases Nat.lt_or_ge i listed.size with h' | h'
  · simp [h'] at hun hi
    rw [hun] at hi
    cases hi
  · simp [Array.getElem?_eq_none h'] at hun
def qAd (P : Program) (md : Region.Mode) (ops : Array Oper) (Q : Exit → Act → World → Prop) (S : World → Prop) (ds : List Nat) : Nat → Array Bool → Act → World → Prop
  | 0, listed, a, w => Region.ready md ops listed = [] ∧ Q .normal a w
  | fuel + 1, listed, a, w =>
    (Region.ready md ops listed = [] → Q .normal a w) ∧
    ∀ i ∈ Region.ready md ops listed, wpOp P ops Q i (fun a' w' => (i ∉ ds → S w → S w') ∧ qAd P md ops Q S ds fuel (listed.setIfInBounds i true) a' w') a w
theorem qBg : ∀ (fuel : Nat) (listed : Array Bool) (a : Act) (w : World), qAd P md ops Q S ds fuel listed a w → wpAny P md ops Q fuel listed a w
  | 0, _, _, _, h => h
  | fuel + 1, _, _, _, h => ⟨h.1, fun i hi => wpOp_mono (fun a' w' h' => qBg fuel _ a' w' h'.2) (h.2 i hi)⟩
theorem qBv {i : Nat} {oi : Oper} {v : Value} (hi : ops[i]? = some oi) (hsel : ∀ (j : Nat) (o : Oper) cs b, ops[j]? = some o → o.op ≠ .select cs b)
    (hQ : ∀ c a w, Q (.panic c) (a.put oi.dst v) w → Q (.panic c) a w) (n : Nat) :
    ∀ (fuel : Nat) (listed : Array Bool) (a : Act) (w : World),
      (∀ j oj, ops[j]? = some oj → j ≠ i → listed.getD j true = false → (∀ e ∈ oj.after, Region.binds md e = true → e.on ≠ i) → oi.apart ops oj = true) →
      qAm md ops listed → (∀ d ∈ ds, listed.getD d true = false → Region.reachB md ops i n d = true) →
      i ∈ Region.ready md ops listed → YieldsIf P ops S oi v a → S w →
      qAd P md ops Q S ds fuel (listed.setIfInBounds i true) (a.put oi.dst v) w → qAd P md ops Q S ds (fuel + 1) listed a w := by
  intro fuel
  induction fuel with
  | zero =>
    intro listed a w _ _ _ hr hy hS H
    refine ⟨fun h => (by rw [h] at hr; cases hr), fun j hj => ?_⟩
    by_cases hji : j = i
    · subst hji; exact hy.wpOp hi hS ⟨fun _ h => h, H⟩
    · have := ready_mono hj hji
      rw [H.1] at this
      cases this
  | succ fuel ih =>
    intro listed a w hfree hc hd hr hy hS H
    refine ⟨fun h => (by rw [h] at hr; cases hr), fun j hj => ?_⟩
    by_cases hji : j = i
    · subst hji; exact hy.wpOp hi hS ⟨fun _ h => h, H⟩
    · have h1 := H.2 j (ready_mono hj hji)
      obtain ⟨hjun, oj, hoj, hall⟩ := mem_ready.1 hj
      have hiun := (mem_ready.1 hr).1
      have hnot : ∀ e ∈ oj.after, Region.binds md e = true → e.on ≠ i := fun e he hb heq => by
        have h1 := hall e he hb
        rw [heq] at h1
        rcases Nat.lt_or_ge i listed.size with h' | h'
        · simp [h'] at hiun h1; rw [hiun] at h1; cases h1
        · simp [Array.getElem?_eq_none h'] at h1
      have hjd : j ∉ ds := fun hm => Region.reach_not_ready hc (hd j hm hjun) hiun hj
      have h2 := wpOp_putIf hoj (hfree j oj hoj hji hjun hnot) (fun cs b => hsel i oi cs b hi) (fun cs b => hsel j oj cs b hoj) hQ hy h1
      have hfree' : ∀ k ok, ops[k]? = some ok → k ≠ i → (listed.setIfInBounds j true).getD k true = false →
          (∀ e ∈ ok.after, Region.binds md e = true → e.on ≠ i) → oi.apart ops ok = true := fun k ok hk hki hun hno => by
        refine hfree k ok hk hki ?_ hno
        by_cases hjk : j = k
        · subst hjk; exact hjun
        · rw [getD_set_ne true hjk] at hun; exact hun
      have hd' : ∀ d ∈ ds, (listed.setIfInBounds j true).getD d true = false → Region.reachB md ops i n d = true := fun d hm hun => by
        refine hd d hm ?_
        by_cases hjk : j = d
        · subst hjk; exact hjun
        · rw [getD_set_ne true hjk] at hun; exact hun
      refine wpOp_mono (fun a' w' h3 => ⟨h3.2.1, ih (listed.setIfInBounds j true) a' w' hfree' (hc.set hj) hd' (ready_mono hr (Ne.symm hji)) h3.1 (h3.2.1 hjd hS) ?_⟩) h2
      rw [Array.setIfInBounds_comm _ _ hji]
      exact h3.2.2
theorem qCm {i : Nat} {oi : Oper} {v : Value} (hi : ops[i]? = some oi) (hsel : ∀ (j : Nat) (o : Oper) cs b, ops[j]? = some o → o.op ≠ .select cs b)
    (hQ : ∀ c a w, Q (.panic c) (a.put oi.dst v) w → Q (.panic c) a w) :
    ∀ (fuel : Nat) (listed : Array Bool) (a : Act) (w : World),
      (∀ j oj, ops[j]? = some oj → j ≠ i → listed.getD j true = false → (∀ e ∈ oj.after, Region.binds md e = true → e.on ≠ i) → oi.apart ops oj = true) →
      i ∈ Region.ready md ops listed → Yields P ops oi v a →
      qAd P md ops Q S ds fuel (listed.setIfInBounds i true) (a.put oi.dst v) w → qAd P md ops Q S ds (fuel + 1) listed a w := by
  intro fuel
  induction fuel with
  | zero =>
    intro listed a w _ hr hy H
    refine ⟨fun h => (by rw [h] at hr; cases hr), fun j hj => ?_⟩
    by_cases hji : j = i
    · subst hji; exact (hy.yieldsIf (S := fun _ => True)).wpOp hi trivial ⟨fun _ h => h, H⟩
    · have := ready_mono hj hji
      rw [H.1] at this
      cases this
  | succ fuel ih =>
    intro listed a w hfree hr hy H
    refine ⟨fun h => (by rw [h] at hr; cases hr), fun j hj => ?_⟩
    by_cases hji : j = i
    · subst hji; exact (hy.yieldsIf (S := fun _ => True)).wpOp hi trivial ⟨fun _ h => h, H⟩
    · have h1 := H.2 j (ready_mono hj hji)
      obtain ⟨hjun, oj, hoj, hall⟩ := mem_ready.1 hj
      have hiun := (mem_ready.1 hr).1
      have hnot : ∀ e ∈ oj.after, Region.binds md e = true → e.on ≠ i := fun e he hb heq => by
        have h1 := hall e he hb
        rw [heq] at h1
        rcases Nat.lt_or_ge i listed.size with h' | h'
        · simp [h'] at hiun h1; rw [hiun] at h1; cases h1
        · simp [Array.getElem?_eq_none h'] at h1
      have h2 := wpOp_put hoj (hfree j oj hoj hji hjun hnot) (fun cs b => hsel i oi cs b hi) (fun cs b => hsel j oj cs b hoj) hQ hy h1
      have hfree' : ∀ k ok, ops[k]? = some ok → k ≠ i → (listed.setIfInBounds j true).getD k true = false →
          (∀ e ∈ ok.after, Region.binds md e = true → e.on ≠ i) → oi.apart ops ok = true := fun k ok hk hki hun hno => by
        refine hfree k ok hk hki ?_ hno
        by_cases hjk : j = k
        · subst hjk; exact hjun
        · rw [getD_set_ne true hjk] at hun; exact hun
      refine wpOp_mono (fun a' w' h3 => ⟨h3.2.1, ih (listed.setIfInBounds j true) a' w' hfree' (ready_mono hr (Ne.symm hji)) h3.1 ?_⟩) h2
      rw [Array.setIfInBounds_comm _ _ hji]
      exact h3.2.2
theorem qB9 {i : Nat} {oi : Oper} {v : Value} {fuel : Nat} {listed : Array Bool} {a : Act} {w : World} (hi : ops[i]? = some oi)
    (hs : Region.noSelect ops = true) (hf : Region.free md ops listed i = true) (hr : (Region.ready md ops listed).contains i = true)
    (hc : Region.closedB md ops listed = true) (hl : Region.lastB md ops listed ds i = true)
    (hQ : ∀ c a w, Q (.panic c) (a.put oi.dst v) w → Q (.panic c) a w) (hy : YieldsIf P ops S oi v a) (hS : S w)
    (h : qAd P md ops Q S ds fuel (listed.setIfInBounds i true) (a.put oi.dst v) w) : qAd P md ops Q S ds (fuel + 1) listed a w :=
  qBv hi (Region.noSelect_spec hs) hQ ops.size fuel listed a w (Region.free_spec hi hf) (Region.closedB_spec hc)
    (fun d hm hun => by have := List.all_eq_true.1 hl d hm; rw [hun] at this; simpa using this) (by simpa using hr) hy hS h
theorem qCn {rs : List Nat} {fuel : Nat} {listed : Array Bool} {a : Act} {w : World} (hr : Region.ready md ops listed = rs) (hne : rs ≠ [])
    (h : ∀ i ∈ rs, wpOp P ops Q i (fun a' w' => (i ∉ ds → S w → S w') ∧ qAd P md ops Q S ds fuel (listed.setIfInBounds i true) a' w') a w) : qAd P md ops Q S ds (fuel + 1) listed a w :=
  ⟨fun h0 => absurd (hr ▸ h0) hne, hr ▸ h⟩
theorem qCa {listed : Array Bool} {a : Act} {w : World} (hr : Region.ready md ops listed = []) (h : Q .normal a w) :
    ∀ fuel, qAd P md ops Q S ds fuel listed a w
  | 0 => ⟨hr, h⟩
  | _ + 1 => ⟨fun _ => h, by rw [hr]; simp⟩
theorem qB8 {id : Nat} {a : Act} {w : World} (hm : P.follows .mixedOrders = true)
    (h : qAd P .any ops Q S ds ops.size (Array.replicate ops.size false) a { w with drawn := w.drawn + 1 }) : (Code.region id ops true).wp P Q a w :=
  wp_region_any hm (qBg _ _ _ _ h)
end
section
variable {P : Program} {ops : Array Oper} {Q : Exit → Act → World → Prop} {md : Region.Mode} {S : World → Prop} {ds : List Nat}
def qAq (P : Program) (md : Region.Mode) (ops : Array Oper) (Q : Exit → Act → World → Prop) (S : World → Prop) (ds : List Nat) (fuel : Nat) (listed : Array Bool) (a : Act) (w : World) (rs : List Nat) : Prop :=
  ∀ i ∈ rs, wpOp P ops Q i (fun a' w' => (i ∉ ds → S w → S w') ∧ qAd P md ops Q S ds fuel (listed.setIfInBounds i true) a' w') a w
theorem qAq.nil {fuel : Nat} {listed : Array Bool} {a : Act} {w : World} : qAq P md ops Q S ds fuel listed a w [] := fun _ h => by cases h
theorem qAq.cons {fuel : Nat} {listed : Array Bool} {a : Act} {w : World} {i : Nat} {o : Oper} {rs : List Nat} (ho : ops[i]? = some o) (hd : i ∉ ds)
    (h : ∀ K' : Act → World → Prop, Shut (∀ a w, S w → (S w → qAd P md ops Q S ds fuel (listed.setIfInBounds i true) a w) → K' a w) → if Region.wanted o (yielded ops a.tmps) = true then Oper.wp P o a w K' Q else K' (a.put o.dst undef) w)
    (hs : qAq P md ops Q S ds fuel listed a w rs) : qAq P md ops Q S ds fuel listed a w (i :: rs) := fun j hj => by
  rcases List.mem_cons.1 hj with rfl | hj
  · exact wpOp_step ho (fun K' hK => h K' (fun a w hS hW => hK a w ⟨fun _ _ => hS, hW hS⟩))
  · exact hs j hj
theorem qBu {rs : List Nat} {fuel : Nat} {listed : Array Bool} {a : Act} {w : World} (hr : Region.ready md ops listed = rs) (hne : rs ≠ [])
    (h : qAq P md ops Q S ds fuel listed a w rs) : qAd P md ops Q S ds (fuel + 1) listed a w := qCn hr hne h
theorem start_ {id n : Nat} {a : Act} {w : World} (l : Array Bool) (hm : P.follows .mixedOrders = true) (hn : ops.size = n) (hl : Array.replicate n false = l) (hS : S w.drew)
    (h : S w.drew → qAd P .any ops Q S ds n l a w.drew) : (Code.region id ops true).wp P Q a w := by
  subst hn
  subst hl
  exact qB8 hm (h hS)
def takeB (md : Region.Mode) (ops : Array Oper) (ds : List Nat) (l l' : Array Bool) (i : Nat) : Bool :=
  Region.noSelect ops && Region.free md ops l i && (Region.ready md ops l).contains i && Region.closedB md ops l && Region.lastB md ops l ds i && (l.setIfInBounds i true == l')
theorem take_ {i : Nat} {N : Option Tmp} {oi : Oper} {v : Value} {fuel : Nat} {l : Array Bool} {a : Act} {w : World} (l' : Array Bool) (hi : ops[i]? = some oi) (hN : oi.dst = N) (hc : takeB md ops ds l l' i = true)
    (hQ : ∀ c a w, Q (.panic c) (a.put oi.dst v) w → Q (.panic c) a w) (hy : YieldsIf P ops S oi v a) (hS : S w) {a' : Act} (ha : a.put N v = a')
    (h : qAd P md ops Q S ds fuel l' a' w) : qAd P md ops Q S ds (fuel + 1) l a w := by
  subst ha
  subst hN
  simp only [takeB, Bool.and_eq_true, beq_iff_eq] at hc
  obtain ⟨⟨⟨⟨⟨h1, h2⟩, h3⟩, h4⟩, h5⟩, h6⟩ := hc
  subst h6
  exact qB9 hi h1 h2 h3 h4 h5 hQ hy hS h
def anyB (md : Region.Mode) (ops : Array Oper) (l l' : Array Bool) (i : Nat) : Bool :=
  Region.noSelect ops && Region.free md ops l i && (Region.ready md ops l).contains i && (l.setIfInBounds i true == l')
theorem pure_ {i : Nat} {N : Option Tmp} {oi : Oper} {v : Value} {fuel : Nat} {l : Array Bool} {a : Act} {w : World} (l' : Array Bool) (hi : ops[i]? = some oi) (hN : oi.dst = N) (hc : anyB md ops l l' i = true)
    (hQ : ∀ c a w, Q (.panic c) (a.put oi.dst v) w → Q (.panic c) a w) (hy : Yields P ops oi v a) {a' : Act} (ha : a.put N v = a')
    (h : qAd P md ops Q S ds fuel l' a' w) : qAd P md ops Q S ds (fuel + 1) l a w := by
  subst ha
  subst hN
  simp only [anyB, Bool.and_eq_true, beq_iff_eq] at hc
  obtain ⟨⟨⟨h1, h2⟩, h3⟩, h6⟩ := hc
  subst h6
  exact qCm hi (Region.noSelect_spec h1) hQ fuel l a w (Region.free_spec hi h2) (by simpa using h3) hy h
def readyB (md : Region.Mode) (ops : Array Oper) (l l' : Array Bool) (i : Nat) : Bool := (Region.ready md ops l == [i]) && (l.setIfInBounds i true == l')
theorem one_ {i : Nat} {N : Option Tmp} {oi : Oper} {fuel : Nat} {l : Array Bool} {a : Act} {w : World} (l' : Array Bool) (hi : ops[i]? = some oi) (hN : oi.dst = N) (hc : readyB md ops l l' i = true) (hd : i ∉ ds)
    (h : ∀ K : Act → World → Prop, Shut (∀ a' w', S w' → (S w' → qAd P md ops Q S ds fuel l' a' w') → K a' w') → if Region.wanted oi (yielded ops a.tmps) = true then Oper.wp P oi a w K Q else K (a.put N undef) w) :
    qAd P md ops Q S ds (fuel + 1) l a w := by
  subst hN
  simp only [readyB, Bool.and_eq_true, beq_iff_eq] at hc
  obtain ⟨h1, h2⟩ := hc
  subst h2
  exact qBu h1 (by simp) (qAq.cons hi hd (fun K hK => h K hK) qAq.nil)
theorem done_ {l : Array Bool} {a : Act} {w : World} {n : Nat} (hr : (Region.ready md ops l == []) = true) (h : Q .normal a w) : qAd P md ops Q S ds n l a w := qCa (by simpa using hr) h n
theorem norm_ {fuel : Nat} {l : Array Bool} {a a' : Act} {w : World} (ha : a = a') (h : qAd P md ops Q S ds fuel l a' w) : qAd P md ops Q S ds fuel l a w := by
  subst ha
  exact h
theorem call_ {oi : Oper} {N : Option Tmp} {a : Act} {w : World} {K : Act → World → Prop} (f : FuncId) (args : Array Value) (hw : Region.wanted oi (yielded ops a.tmps) = true) (hN : oi.dst = N) (hrun : (execOp a.eval oi).run P w = .ok (.enter f args) w)
    (h : Calls P f args w fun e w' => ∃ v, e = .returned v ∧ K (a.put N v) w') : if Region.wanted oi (yielded ops a.tmps) = true then Oper.wp P oi a w K Q else K (a.put N undef) w := by
  rw [if_pos hw]
  subst hN
  unfold Oper.wp
  rw [hrun, Oper.upon_enter]
  refine h.mono fun e w'' hh => ?_
  obtain ⟨v, rfl, hk⟩ := hh
  exact hk
theorem qD6 {f : FuncId} {fn : Func} (hf : P.funcs[f]? = some fn) (hname : (fn.name == "runtime.NumGoroutine") = false) (hb : fn.body.isSome = true) (args : Array Value) (w : World) : (callFunc f args).run P w = .ok (.enter f args) w := by
  have h1 : fn.name ≠ "runtime.NumGoroutine" := by simpa using hname
  obtain ⟨c, hc⟩ := Option.isSome_iff_exists.1 hb
  simp [callFunc, hf, h1, hc]
theorem goes_ {oi : Oper} {N : Option Tmp} {a : Act} {w : World} {K : Act → World → Prop} {f : FuncId} {fn : Func} {as_ : Array Operand} {ts : Array TypeId} (hf : P.funcs[f]? = some fn) (hname : (fn.name == "runtime.NumGoroutine") = false) (hb : fn.body.isSome = true) (args : Array Value)
    (hw : Region.wanted oi (yielded ops a.tmps) = true) (hN : oi.dst = N) (hop : oi.op = .call { callee := .value (.func f), args := as_, argTypes := ts }) (hargs : as_.map a.eval = args)
    (h : Calls P f args w fun e w' => ∃ v, e = .returned v ∧ K (a.put N v) w') : if Region.wanted oi (yielded ops a.tmps) = true then Oper.wp P oi a w K Q else K (a.put N undef) w := by
  refine call_ f args hw hN ?_ h
  have he := qD6 hf hname hb args w
  unfold execOp
  simp [hop, resolve, Deferred.ofValue, invoke, Act.eval, hargs, he]
theorem goesL_ {rest : List Oper} {oi : Oper} {a : Act} {w : World} (N : Option Tmp) (hd : oi.dst = N) (hg : oi.guard = none) {f : FuncId} {fn : Func} {as_ : Array Operand} {ts : Array TypeId} (hf : P.funcs[f]? = some fn) (hname : (fn.name == "runtime.NumGoroutine") = false) (hb : fn.body.isSome = true) (args : Array Value)
    (hop : oi.op = .call { callee := .value (.func f), args := as_, argTypes := ts }) (hargs : as_.map a.eval = args)
    (h : Calls P f args w fun e w' => ∃ v, e = .returned v ∧ wpList P ops Q rest (a.put N v) w') : wpList P ops Q (oi :: rest) a w := by
  refine wpList_plain hg fun K hK => ?_
  have he := qD6 hf hname hb args w
  have hrun : (execOp a.eval oi).run P w = .ok (.enter f args) w := by
    unfold execOp
    simp [hop, resolve, Deferred.ofValue, invoke, Act.eval, hargs, he]
  unfold Oper.wp
  rw [hrun, Oper.upon_enter]
  refine h.mono fun e w'' hh => ?_
  obtain ⟨v, rfl, hk⟩ := hh
  subst hd
  exact hK _ _ hk
theorem i64_w (n : Int) : IntKind.i64.wrap n = Go.RowKit.wrap64 n := by unfold Go.RowKit.wrap64; exact IntKind.wrap_i64 n
theorem i32_w (n : Int) : IntKind.i32.wrap n = Go.RowKit.wrap32 n := by unfold Go.RowKit.wrap32; exact IntKind.wrap_i32 n
end
end Go.Proofs.YtbnoihpooeombaaDoorW.PrintLast

namespace Go.Proofs.YtbnoihpooeombaaDoorW.PrintWords
open Go.RowKit
section
variable {P : Program} {ops : Array Oper} {rest : List Oper} {o : Oper} {a : Act} {Q : Exit → Act → World → Prop} {W : World}
theorem qBd {f : FuncId} {as_ : Array Operand} {ts : Array TypeId} (_ho : o.op = .call { callee := .value (.func f), args := as_, argTypes := ts }) (h : wpList P ops Q (o :: rest) a W) : wpList P ops Q (o :: rest) a W := h
end
end Go.Proofs.YtbnoihpooeombaaDoorW.PrintWords

namespace Go.Proofs.YtbnoihpooeombaaDoor.X
open Go.RowKit Go.Proofs.YtbnoihpooeombaaDoorW.PrintWords
structure Tabs (w : World) : Prop where
  t16 : w.cell? ⟨3, 15, none⟩ = some (.int .u8 4)
  t8 : w.cell? ⟨3, 7, none⟩ = some (.int .u8 3)
  pow : Lib.TabIs Tryd.prog w "internal/strconv.uint64pow10" .u64 Lib.pow10Tab
  maxl : ∃ m : Int, w.cell? ⟨1, 0, none⟩ = some (.int .i64 m)
theorem qC8 {P : Program} {w w1 : World} {n : String} {k : IntKind} {zs : List Int} (h : Lib.TabIs P w n k zs) (hb : Below w.heap.size w w1) : Lib.TabIs P w1 n k zs := by
  unfold Lib.TabIs World.var? at h ⊢
  cases hg : P.globalNamed n with
  | none => simp [hg] at h
  | some g =>
    simp only [hg, Option.bind_some] at h ⊢
    have hlt : g < w.heap.size := by
      rcases Nat.lt_or_ge g w.heap.size with h' | h'
      · exact h'
      · simp [Array.getElem?_eq_none h'] at h
    rw [hb.block g hlt]
    exact h
theorem Tabs.below {w w1 : World} (h : Tabs w) (hb : Below w.heap.size w w1) : Tabs w1 where
  t16 := qAb hb h.t16
  t8 := qAb hb h.t8
  pow := qC8 h.pow hb
  maxl := let ⟨m, hm⟩ := h.maxl; ⟨m, qAb hb hm⟩
theorem qAk {P : Program} {ops : Array Oper} {rest : List Oper} {o : Oper} {a : Act} {Q : Exit → Act → World → Prop} {W : World} (hgd : o.guard = none) (s x : Operand) (t u : TypeId)
    (ho : o.op = .call { callee := .builtin .append, args := #[s, x], argTypes := #[t, u] }) (v1 v2 v : Value) (W2 : World) (hs : a.eval s = v1) (hx : a.eval x = v2)
    (hr : (Builtin.append_ #[t, u] o.type #[v1, v2]).run P W = .ok v W2) (h : wpList P ops Q rest (a.put o.dst v) W2) : wpList P ops Q (o :: rest) a W :=
  wpList_plain hgd fun K hK => by
    unfold Oper.wp execOp
    simp only [ho, resolve, invoke, builtin, Sem.run_bind, Sem.run_pure, Result.andThen_ok, List.map_toArray, List.map_cons, List.map_nil, hs, hx, hr]
    exact hK _ _ h
end Go.Proofs.YtbnoihpooeombaaDoor.X

namespace Go.Proofs
open Go.Shelf
def Tryd.lays105_ren : Go.Shelf.Ren := ⟨fun | 105 => 90 | 212 => 105 | 99 => 106 | 165 => 95 | 166 => 96 | 170 => 107 | 169 => 97 | 263 => 118 | 264 => 119 | 206 => 120 | 240 => 109 | 241 => 110 | 276 => 121 | 277 => 122 | n => n, fun | 9 => 9 | 3 => 3 | 4 => 4 | 20 => 20 | 0 => 0 | 46 => 89 | 109 => 129 | 5 => 5 | 72 => 121 | 76 => 125 | 51 => 140 | 146 => 141 | 53 => 96 | 148 => 143 | 70 => 119 | 37 => 78 | 75 => 124 | 127 => 132 | 164 => 145 | 80 => 127 | n => n, fun | n => n⟩
theorem Tryd.lays105 : Go.Proofs.Lays.n105 Tryd.prog Tryd.lays105_ren := {
  mixed := by kernel_rfl
  f99 := Tryd.func106.trans (congrArg some (by kernel_rfl))
  f105 := Tryd.func90.trans (congrArg some (by kernel_rfl))
  f165 := Tryd.func95.trans (congrArg some (by kernel_rfl))
  f166 := Tryd.func96.trans (congrArg some (by kernel_rfl))
  f169 := Tryd.func97.trans (congrArg some (by kernel_rfl))
  f170 := Tryd.func107.trans (congrArg some (by kernel_rfl))
  f206 := Tryd.func120.trans (congrArg some (by kernel_rfl))
  f212 := Tryd.func105.trans (congrArg some (by kernel_rfl))
  f240 := Tryd.func109.trans (congrArg some (by kernel_rfl))
  f241 := Tryd.func110.trans (congrArg some (by kernel_rfl))
  f263 := Tryd.func118.trans (congrArg some (by kernel_rfl))
  f264 := Tryd.func119.trans (congrArg some (by kernel_rfl))
  f276 := Tryd.func121.trans (congrArg some (by kernel_rfl))
  f277 := Tryd.func122.trans (congrArg some (by kernel_rfl))
  t0 := Tryd.underlying0
  a0 := Tryd.isAgg0
  z0 := Tryd.sizeOf0
  v0 := Tryd.zeroValue0
  t3 := Tryd.underlying3
  a3 := Tryd.isAgg3
  z3 := Tryd.sizeOf3
  v3 := Tryd.zeroValue3
  t4 := Tryd.underlying4
  a4 := Tryd.isAgg4
  z4 := Tryd.sizeOf4
  v4 := Tryd.zeroValue4
  t5 := Tryd.underlying5
  a5 := Tryd.isAgg5
  z5 := Tryd.sizeOf5
  v5 := Tryd.zeroValue5
  t9 := Tryd.underlying9
  a9 := Tryd.isAgg9
  z9 := Tryd.sizeOf9
  v9 := Tryd.zeroValue9
  t20 := Tryd.underlying20
  a20 := Tryd.isAgg20
  z20 := Tryd.sizeOf20
  v20 := Tryd.zeroValue20
  t37 := Tryd.underlying78
  a37 := Tryd.isAgg78
  z37 := Tryd.sizeOf78
  v37 := Tryd.zeroValue78
  t46 := Tryd.underlying89
  a46 := Tryd.isAgg89
  z46 := Tryd.sizeOf89
  v46 := Tryd.zeroValue89
  t51 := Tryd.underlying140
  a51 := Tryd.isAgg140
  z51 := Tryd.sizeOf140
  v51 := Tryd.zeroValue140
  t53 := Tryd.underlying96
  a53 := Tryd.isAgg96
  z53 := Tryd.sizeOf96
  v53 := Tryd.zeroValue96
  t70 := Tryd.underlying119
  a70 := Tryd.isAgg119
  z70 := Tryd.sizeOf119
  v70 := Tryd.zeroValue119
  t72 := Tryd.underlying121
  a72 := Tryd.isAgg121
  z72 := Tryd.sizeOf121
  v72 := Tryd.zeroValue121
  t75 := Tryd.underlying124
  a75 := Tryd.isAgg124
  z75 := Tryd.sizeOf124
  v75 := Tryd.zeroValue124
  t76 := Tryd.underlying125
  a76 := Tryd.isAgg125
  z76 := Tryd.sizeOf125
  v76 := Tryd.zeroValue125
  t109 := Tryd.underlying129
  a109 := Tryd.isAgg129
  z109 := Tryd.sizeOf129
  v109 := Tryd.zeroValue129
  t127 := Tryd.underlying132
  a127 := Tryd.isAgg132
  z127 := Tryd.sizeOf132
  v127 := Tryd.zeroValue132
  t146 := Tryd.underlying141
  a146 := Tryd.isAgg141
  z146 := Tryd.sizeOf141
  v146 := Tryd.zeroValue141
  t148 := Tryd.underlying143
  a148 := Tryd.isAgg143
  z148 := Tryd.sizeOf143
  v148 := Tryd.zeroValue143
  t164 := Tryd.underlying145
  a164 := Tryd.isAgg145
  z164 := Tryd.sizeOf145
  v164 := Tryd.zeroValue145 }
theorem Tryd.Builder_Extra_105 : Builder.Extra Tryd.prog Tryd.lays105_ren := {
  sizeBuilder := by kernel_rfl
  liesBuilder := by kernel_rfl
  t5 := Tryd.underlying5
  a5 := Tryd.isAgg5
  z5 := Tryd.sizeOf5
  v5 := Tryd.zeroValue5
  infoByte := by kernel_rfl
  cellsByte := by kernel_rfl
  sizeByte := by kernel_rfl
  neB5 := by decide }
open Go.RowKit Go.Lib in
theorem Tryd.strings_Repeat (s : ByteArray) (c : Nat) (w : World) (hc : c ≤ 9223372036854775807) (hlen : s.size * c ≤ 140737488355328) :
    Calls Tryd.prog 90 #[.string s, .int .i64 c] w fun e w' => e = .returned (.string ⟨(Lib.repeatL s.data.toList c).toArray⟩) ∧ Below w.heap.size w w' := Any.strings_Repeat Tryd.lays105 Tryd.Builder_Extra_105 s c w hc hlen
end Go.Proofs

namespace Go.Proofs.YtbnoihpooeombaaDoor.X
open Go.RowKit Go.Proofs.YtbnoihpooeombaaDoorW.PrintWords
set_option linter.unusedVariables false
theorem own : ownKnob Tryd.prog.godebug = none := by kernel_rfl
theorem qEt : laidOutB Tryd.prog = true := by kernel_rfl
theorem qC0 {P : Program} {W : World} {x : String × DataW Unit} {rest : List (String × DataW Unit)} (h : laidMet P (x :: rest) W) : laidMet P rest W := by
  obtain ⟨ps, hv, hn, hc⟩ := h
  obtain ⟨name, d⟩ := x
  obtain ⟨g, t, cs, fuel, p, q, hg, ht, hvar, hd, hr, rfl⟩ := hv
  exact ⟨q, hr, (List.nodup_append.1 hn).2.1, fun b off hm => hc b off (List.mem_append_right _ hm)⟩
def deB64 : List Int := [0, 1, 56, 2, 57, 49, 28, 3, 61, 58, 42, 50, 38, 29, 17, 4, 62, 47, 59, 36, 45, 43, 51, 22, 53, 39, 33, 30, 24, 18, 12, 5, 63, 55, 48, 27, 60, 41, 37, 16, 46, 35, 44, 21, 52, 32, 23, 11, 54, 26, 40, 15, 34, 20, 31, 10, 25, 14, 19, 9, 13, 8, 7, 6]
def qDk : List (String × DataW Unit) := [("math/bits.deBruijn32tab", Rows.laid_math_bits_deBruijn32tab), ("math/bits.deBruijn64tab", Rows.laid_math_bits_deBruijn64tab), ("internal/strconv.uint64pow10", Rows.laid_internal_strconv_uint64pow10)]
theorem qEp {W : World} (h : laidMetH Tryd.prog qDk W) (hsh : W.ShapedOpen Tryd.prog) : Tabs W := by
  have h0 : laidMet Tryd.prog qDk W := h
  have h1 := qC0 h0
  have h2 := qC0 h1
  have t64 : Lib.TabIs Tryd.prog W "math/bits.deBruijn64tab" .u8 deB64 :=
    Lib.tabIs_of_head (t := 156) (e := 5) (n := 64) (g := 3) (by kernel_rfl) (by kernel_rfl) Tryd.underlying156 Tryd.underlying5 (by kernel_rfl) (by kernel_rfl) h1
  have t10 : Lib.TabIs Tryd.prog W "internal/strconv.uint64pow10" .u64 Lib.pow10Tab :=
    Lib.tabIs_of_head (t := 150) (e := 96) (n := 20) (g := 0) (by kernel_rfl) (by kernel_rfl) Tryd.underlying150 Tryd.underlying96 (by kernel_rfl) (by kernel_rfl) h2
  exact ⟨t64.cell (g := 3) (by kernel_rfl) 15 (by decide), t64.cell (g := 3) (by kernel_rfl) 7 (by decide), t10, cell_of_shapedOpen_int (zero := #[.int .i64 0]) (t := 3) hsh (of_decide_eq_true (by kernel_rfl)) (by kernel_rfl) rfl (by kernel_rfl) (by kernel_rfl) Tryd.underlying3⟩
noncomputable def qB1 (os : Os) : World := World.doorLaid Tryd.prog 400 os
end Go.Proofs.YtbnoihpooeombaaDoor.X

namespace Go.Proofs.YtbnoihpooeombaaDoor.X
open Go.RowKit
set_option linter.unusedVariables false
set_option linter.unusedSimpArgs false
def dch (k : Nat) : UInt8 := if k < 10 then UInt8.ofNat (48 + k) else UInt8.ofNat (87 + k)
def qAj (b : Nat) (u : Nat) : List UInt8 := if h : u < b ∨ b < 2 then [dch u] else qAj b (u / b) ++ [dch (u % b)]
termination_by u
decreasing_by
  have : ¬ u < b := fun x => h (.inl x)
  have : ¬ b < 2 := fun x => h (.inr x)
  exact Nat.div_lt_self (by omega) (by omega)
theorem qBe {b u : Nat} (h : u < b) : qAj b u = [dch u] := by unfold qAj; rw [dif_pos (.inl h)]
theorem qB4 {b u : Nat} (h : b ≤ u) (hb : 2 ≤ b) : qAj b u = qAj b (u / b) ++ [dch (u % b)] := by
  rw [qAj]; rw [dif_neg (by omega)]
structure Box (C : Array Value) (ds : List UInt8) : Prop where
  size : C.size = 65
  len : ds.length ≤ 65
  old : ∀ j, j < 65 → ∃ z : Int, C[j]? = some (.int .u8 z)
  new : ∀ j (h : j < ds.length), C[65 - ds.length + j]? = some (.int .u8 (ds[j].toNat))
theorem qEb {C : Array Value} {ds : List UInt8} (h : Box C ds) (hl : ds.length < 65) (x : UInt8) : Box (C.setIfInBounds (64 - ds.length) (.int .u8 (x.toNat : Int))) (x :: ds) := by
  refine ⟨by simp [h.size], by simp; omega, ?_, ?_⟩
  · intro j hj
    by_cases e : 64 - ds.length = j
    · subst e; exact ⟨(x.toNat : Int), by rw [Array.getElem?_setIfInBounds]; simp [h.size]; omega⟩
    · obtain ⟨z, hz⟩ := h.old j hj
      exact ⟨z, by rw [Array.getElem?_setIfInBounds_ne (by omega)]; exact hz⟩
  · intro j hj
    cases j with
    | zero =>
      have e : 65 - (x :: ds).length + 0 = 64 - ds.length := by simp only [List.length_cons]; omega
      rw [e, Array.getElem?_setIfInBounds]
      simp [h.size]; omega
    | succ j =>
      have hj' : j < ds.length := by simpa using hj
      have := h.new j hj'
      rw [show 65 - (x :: ds).length + (j + 1) = 65 - ds.length + j by simp only [List.length_cons]; omega]
      rw [Array.getElem?_setIfInBounds_ne (by omega)]
      simpa using this
abbrev digs : ByteArray := ⟨#[48, 49, 50, 51, 52, 53, 54, 55, 56, 57, 97, 98, 99, 100, 101, 102, 103, 104, 105, 106, 107, 108, 109, 110, 111, 112, 113, 114, 115, 116, 117, 118, 119, 120, 121, 122]⟩
theorem qD7 (k : Nat) (hk : k < 36) (h : k < digs.size) : digs[k] = dch k := by
  have : ∀ j : Fin 36, digs[j.val]'(by have := j.2; exact this) = dch j.val := by decide +kernel
  exact this ⟨k, hk⟩
theorem room_ (u v m : Nat) (hu : u < 18446744073709551616) (h : v * 2 ^ m ≤ u) (hv : 1 ≤ v) : m < 64 := by
  rcases Nat.lt_or_ge m 64 with h1 | h1
  · exact h1
  · have : 2 ^ 64 ≤ 2 ^ m := Nat.pow_le_pow_right (by omega) h1
    have : 1 * 2 ^ m ≤ v * 2 ^ m := Nat.mul_le_mul_right _ hv
    omega
end Go.Proofs.YtbnoihpooeombaaDoor.X

namespace Go.Proofs.YtbnoihpooeombaaDoor.X
open Go.RowKit Go.Proofs.YtbnoihpooeombaaDoorW.PrintWords
set_option linter.unusedVariables false
set_option linter.unusedSimpArgs false
theorem qDx {i : Int} {n : Nat} (h0 : 0 ≤ i) (h : i < (n : Int)) (hn : n ≤ 9223372036854775807) : wrap64 (i + 1) = i + 1 := by
  unfold wrap64
  omega
theorem qDs (xs : List Int) (j : Nat) (h : j < xs.length) : rd xs (j : Int) = xs[j] := by
  simp [rd, List.getD_eq_getElem?_getD, h]
theorem qBo : ∀ n, Lib.repeatL [48] n = List.replicate n (dch 0)
  | 0 => rfl
  | n + 1 => by rw [Lib.repeatL, qBo n, List.replicate_succ]; rfl
theorem qDz (l : List UInt8) : (⟨l.toArray⟩ : ByteArray).size = l.length := by simp [ByteArray.size]
theorem qEc (l m : List UInt8) : (⟨l.toArray⟩ : ByteArray) ++ ⟨m.toArray⟩ = ⟨(l ++ m).toArray⟩ := by
  apply ByteArray.ext
  simp
theorem wrap_i (i n : Nat) (h : i < n) (hn : n ≤ 9223372036854775807) : wrap64 ((i : Int) + 1) = ((i + 1 : Nat) : Int) := by unfold wrap64; omega
end Go.Proofs.YtbnoihpooeombaaDoor.X

namespace Go.Proofs.YtbnoihpooeombaaDoorW.PrintWords
open Go.RowKit
section
variable {P : Program} {d : Nat} {xs ys : Array Value} {f : Field} {fs : List Field} {a b : Value} {r s : Bool} {w : World}
theorem qEm (hn : (f.name == "_") = false) (ha : (part f.type xs f.offset).run P w = .ok a w) (hb : (part f.type ys f.offset).run P w = .ok b w) (he : (Op.equalIn d f.type a b).run P w = .ok r w) : (Op.eqFields d xs ys [f]).run P w = .ok r w := by
  have hn' : f.name ≠ "_" := by simpa using hn
  simp only [Op.eqFields, if_pos hn', Sem.run_bind, ha, hb, he, Result.andThen_ok]
  cases r <;> simp
theorem qEn (hn : (f.name == "_") = false) (ha : (part f.type xs f.offset).run P w = .ok a w) (hb : (part f.type ys f.offset).run P w = .ok b w) (he : (Op.equalIn d f.type a b).run P w = .ok r w) (hr : (Op.eqFields d xs ys fs).run P w = .ok s w) : (Op.eqFields d xs ys (f :: fs)).run P w = .ok (r && s) w := by
  have hn' : f.name ≠ "_" := by simpa using hn
  rw [Op.eqFields]
  simp only [if_pos hn', Sem.run_bind, ha, hb, he, Result.andThen_ok]
  cases r
  · simp
  · simpa using hr
theorem eqA_of {t : TypeId} {fs : Array Field} (hu : P.underlying t = some (.struct fs)) (hp : P.stoodInHeld t = false) (h : (Op.eqFields d xs ys fs.toList).run P w = .ok r w) : (Op.equalIn (d + 1) t (.agg xs) (.agg ys)).run P w = .ok r w := by
  have hf : P.fieldsOf t = fs := by simp [Program.fieldsOf, hu]
  rw [run_equalIn_struct (P := P) w d t xs ys (by rw [hf]; exact hu) hp, hf]
  exact h
end
end Go.Proofs.YtbnoihpooeombaaDoorW.PrintWords

namespace Go.Proofs.YtbnoihpooeombaaDoorW.PrintWords
theorem Reps.front {α : Type} {R : α → List Value → Prop} {size : Nat} {ps : List α} {cs c all : List Value} {p : α} (hp : R p c) (hc : c.length = size) (h : Reps R size ps cs) (ha : c ++ cs = all) : Reps R size (p :: ps) all := by
  subst ha
  refine ⟨by rw [List.length_append, hc, h.1, List.length_cons, Nat.succ_mul, Nat.add_comm], fun j q hq => ?_⟩
  cases j with
  | zero =>
    simp only [List.getElem?_cons_zero, Option.some.injEq] at hq
    subst hq
    rw [Nat.zero_mul, List.drop_zero, List.take_append_of_le_length (by omega), List.take_of_length_le (by omega)]
    exact hp
  | succ j =>
    simp only [List.getElem?_cons_succ] at hq
    have h1 := h.2 j q hq
    rw [Nat.succ_mul, List.drop_append, List.drop_of_length_le (by rw [hc]; exact Nat.le_add_left _ _), List.nil_append, hc, Nat.add_sub_cancel]
    exact h1
theorem Reps.c2 {α : Type} {R : α → List Value → Prop} {ps : List α} {cs : List Value} {p : α} {va vb : Value} (hp : R p [va, vb]) (h : Reps R 2 ps cs) : Reps R 2 (p :: ps) (va :: vb :: cs) := Reps.front hp rfl h rfl
theorem Reps.c3 {α : Type} {R : α → List Value → Prop} {ps : List α} {cs : List Value} {p : α} {va vb vc : Value} (hp : R p [va, vb, vc]) (h : Reps R 3 ps cs) : Reps R 3 (p :: ps) (va :: vb :: vc :: cs) := Reps.front hp rfl h rfl
theorem Reps.c4 {α : Type} {R : α → List Value → Prop} {ps : List α} {cs : List Value} {p : α} {va vb vc vd : Value} (hp : R p [va, vb, vc, vd]) (h : Reps R 4 ps cs) : Reps R 4 (p :: ps) (va :: vb :: vc :: vd :: cs) := Reps.front hp rfl h rfl
theorem Reps.c5 {α : Type} {R : α → List Value → Prop} {ps : List α} {cs : List Value} {p : α} {va vb vc vd ve : Value} (hp : R p [va, vb, vc, vd, ve]) (h : Reps R 5 ps cs) : Reps R 5 (p :: ps) (va :: vb :: vc :: vd :: ve :: cs) := Reps.front hp rfl h rfl
theorem Reps.c6 {α : Type} {R : α → List Value → Prop} {ps : List α} {cs : List Value} {p : α} {va vb vc vd ve vf : Value} (hp : R p [va, vb, vc, vd, ve, vf]) (h : Reps R 6 ps cs) : Reps R 6 (p :: ps) (va :: vb :: vc :: vd :: ve :: vf :: cs) := Reps.front hp rfl h rfl
theorem Reps.c7 {α : Type} {R : α → List Value → Prop} {ps : List α} {cs : List Value} {p : α} {va vb vc vd ve vf vg : Value} (hp : R p [va, vb, vc, vd, ve, vf, vg]) (h : Reps R 7 ps cs) : Reps R 7 (p :: ps) (va :: vb :: vc :: vd :: ve :: vf :: vg :: cs) := Reps.front hp rfl h rfl
theorem Reps.c8 {α : Type} {R : α → List Value → Prop} {ps : List α} {cs : List Value} {p : α} {va vb vc vd ve vf vg vh : Value} (hp : R p [va, vb, vc, vd, ve, vf, vg, vh]) (h : Reps R 8 ps cs) : Reps R 8 (p :: ps) (va :: vb :: vc :: vd :: ve :: vf :: vg :: vh :: cs) := Reps.front hp rfl h rfl
theorem Reps.c9 {α : Type} {R : α → List Value → Prop} {ps : List α} {cs : List Value} {p : α} {va vb vc vd ve vf vg vh vi : Value} (hp : R p [va, vb, vc, vd, ve, vf, vg, vh, vi]) (h : Reps R 9 ps cs) : Reps R 9 (p :: ps) (va :: vb :: vc :: vd :: ve :: vf :: vg :: vh :: vi :: cs) := Reps.front hp rfl h rfl
end Go.Proofs.YtbnoihpooeombaaDoorW.PrintWords

namespace Go.Proofs.YtbnoihpooeombaaDoor.P
open Go.Proofs.YtbnoihpooeombaaDoor.X
open Go.RowKit Go.Proofs.YtbnoihpooeombaaDoorW.PrintWords Go.Proofs.YtbnoihpooeombaaDoorW.PrintLast Go.Proofs.YtbnoihpooeombaaDoorW.PrintMore
set_option linter.unusedVariables false
set_option linter.unusedSimpArgs false
def errW : Option Int → Value
  | none => .nilIface
  | some c => .iface 0 (.int .i64 c)
theorem qC4 : errW none = .nilIface := rfl
theorem qC3 (c : Int) : errW (some c) = .iface 0 (.int .i64 c) := rfl
structure S68 where
  f0 : ByteArray
  f1 : ByteArray
def z68 : S68 := ⟨(⟨#[]⟩ : ByteArray), (⟨#[]⟩ : ByteArray)⟩
def k68 : Kd S68 := Kd.iso (Kd.pair Kd.string Kd.string) (fun x : S68 => (x.f0, x.f1))
theorem qEk {w : World} {x : S68} {cs : List Value} (h : k68.K w x cs) : cs = [.string x.f0, .string x.f1] := by
  obtain ⟨_, _, rfl, rfl, rfl⟩ := h
  exact rfl
theorem k68_mk (w : World) (x : S68)  : k68.K w x [.string x.f0, .string x.f1] := ⟨[.string x.f0], [.string x.f1], rfl, rfl, rfl⟩
def rd_T68 (xs : List S68) (i : Int) : S68 := xs.getD i.toNat z68
theorem at_T68 {w : World} {A : Option Addr} {n : Nat} {xs : List S68} (h : Kd.C k68 w A n xs) (i : Int) (h0 : 0 ≤ i) (h1 : i < n) : ∃ ad , A = some ad ∧ w.cell? (ad.add (i.toNat * 2)) = some (.string (rd_T68 xs i).f0) ∧ w.cell? ⟨(ad.add (i.toNat * 2)).block, (ad.add (i.toNat * 2)).off + 1, none⟩ = some (.string (rd_T68 xs i).f1) := by
  obtain ⟨ad, c, e, _, hK, hc0⟩ := Kd.C_get h z68 i h0 h1
  have hc : ∀ j u, c[j]? = some u → w.cell? (ad.add (i.toNat * 2 + j)) = some u := hc0
  obtain rfl := qEk hK
  exact ⟨ad, e, hc 0 _ rfl, by rw [← qEd _ _ 1 (by omega)]; exact hc 1 _ rfl⟩
def rd_L7 (xs : List (List Int)) (i : Int) : (List Int) := xs.getD i.toNat ([] : List Int)
theorem at_L7 {w : World} {A : Option Addr} {n : Nat} {xs : List (List Int)} (h : Kd.C (Kd.slice 5 (Kd.int .u8)) w A n xs) (i : Int) (h0 : 0 ≤ i) (h1 : i < n) : ∃ ad A0 c0, A = some ad ∧ w.cell? (ad.add i.toNat) = some (.slice A0 (rd_L7 xs i).length c0) ∧ (rd_L7 xs i).length ≤ c0 ∧ (Kd.int .u8).C w A0 (rd_L7 xs i).length (rd_L7 xs i) := by
  obtain ⟨ad, c, e, _, hK, hc0⟩ := Kd.C_get h ([] : List Int) i h0 h1
  have hc : ∀ j u, c[j]? = some u → w.cell? (ad.add (i.toNat * 1 + j)) = some u := hc0
  obtain ⟨A0, c0, rfl, l0, g0⟩ := hK
  exact ⟨ad, A0, c0, e, by have hq := hc 0 _ rfl; rwa [Nat.mul_one, Nat.add_zero] at hq, l0, g0⟩
end Go.Proofs.YtbnoihpooeombaaDoor.P

namespace Go.Proofs.YtbnoihpooeombaaDoor.X
open Go.RowKit Go.Proofs.YtbnoihpooeombaaDoorW.PrintWords Go.Proofs.YtbnoihpooeombaaDoor.P
set_option linter.unusedVariables false
set_option linter.unusedSimpArgs false
def qAe : List ByteArray → Bool
  | a :: b :: l => Op.bytesLess a.toList b.toList && qAe (b :: l)
  | _ => true
end Go.Proofs.YtbnoihpooeombaaDoor.X

namespace Go.Proofs.YtbnoihpooeombaaDoor.X
open Go.RowKit Go.Proofs.YtbnoihpooeombaaDoorW.PrintWords Go.Proofs.YtbnoihpooeombaaDoorW.PrintLast Go.Proofs.YtbnoihpooeombaaDoorW.PrintMore Go.Proofs.YtbnoihpooeombaaDoor.P
set_option linter.unusedVariables false
set_option linter.unusedSimpArgs false
theorem qCi {w w1 w2 : World} {r : Option Nat} (h : w.grownBy w1 r) (hb : w1.grownBy w2 r) : w.grownBy w2 r :=
  ⟨hb.os.trans h.os, hb.tape.trans h.tape, hb.output.trans h.output, by have := h.size; have := hb.size; omega, fun k hk hne => (hb.block k (by have := h.size; omega) hne).trans (h.block k hk hne)⟩
theorem blk_alloc' {w : World} {g : Nat} {o : Obj} (h : w.heap[g]? = some o) (o2 : Obj) : (w.alloc o2).heap[g]? = some o := qC6 h (qAc (Below.refl w.heap.size w) o2)
theorem qBb (z : Array Value) (n : Nat) : (Builtin.zeroCells z n).size = n * z.size := by
  have : (Builtin.zeroCells z n).toList.length = n * z.size := by
    simp [Builtin.zeroCells]
  simpa using this
theorem qBy {W : World} {e size n G base : Nat} {news : List Value} {z : Array Value} (hl : news.length = n * size) (hz : z.size = size) (hg : n ≤ G) (hG : G ≤ maxLen) (b : Nat) (hb : b = W.heap.size) (hbase : base ≤ b) :
    (W.alloc (.cells (news.toArray ++ Builtin.zeroCells z (G - n)) e)).drew.ownsRow base e size (.slice (some ⟨b, 0, none⟩) n G) n news := by
  subst hb
  refine ⟨hl, .inr ⟨W.heap.size, G, _, rfl, hbase, qBf W _, hg, hG, ?_, ?_⟩⟩
  · rw [Array.size_append, qBb, hz]
    simp only [List.size_toArray, hl]
    rw [← Nat.add_mul]
    congr 1
    omega
  · rw [Array.toList_append, List.take_append_of_le_length (by simp [hl])]
    simp [← hl]
end Go.Proofs.YtbnoihpooeombaaDoor.X

namespace Go.Proofs.YtbnoihpooeombaaDoor.X
open Go.RowKit Go.Proofs.YtbnoihpooeombaaDoorW.PrintWords Go.Proofs.YtbnoihpooeombaaDoorW.PrintLast Go.Proofs.YtbnoihpooeombaaDoorW.PrintMore Go.Proofs.YtbnoihpooeombaaDoor.P
set_option linter.unusedVariables false
set_option linter.unusedSimpArgs false
theorem qCy (l : List ByteArray) (j : Nat) (h : j < l.length) : rdOf ByteArray.empty l (j : Int) = l[j] := by
  simp [rdOf, List.getD_eq_getElem?_getD, h]
end Go.Proofs.YtbnoihpooeombaaDoor.X

namespace Go.Proofs.YtbnoihpooeombaaDoor.X
open Go.RowKit Go.Proofs.YtbnoihpooeombaaDoorW.PrintWords Go.Proofs.YtbnoihpooeombaaDoorW.PrintLast Go.Proofs.YtbnoihpooeombaaDoorW.PrintMore Go.Proofs.YtbnoihpooeombaaDoor.P
set_option linter.unusedVariables false
set_option linter.unusedSimpArgs false
theorem qEg (w : World) (a : Addr) (v : Value) : (w.setCell a v).heap.size = w.heap.size := by simp [World.setCell]
theorem qD2 {w : World} {base e size n : Nat} {v : Value} {xs : List Value} (h : w.ownsRow base e size v n xs) : ∃ a c, v = .slice a n c := by
  rcases h.2 with ⟨rfl, rfl⟩ | ⟨g, cap, cur, rfl, _⟩
  · exact ⟨none, 0, rfl⟩
  · exact ⟨_, _, rfl⟩
end Go.Proofs.YtbnoihpooeombaaDoor.X

namespace Go.Proofs.YtbnoihpooeombaaDoor.X
open Go.RowKit Go.Proofs.YtbnoihpooeombaaDoorW.PrintWords Go.Proofs.YtbnoihpooeombaaDoorW.PrintLast Go.Proofs.YtbnoihpooeombaaDoorW.PrintMore Go.Proofs.YtbnoihpooeombaaDoor.P
set_option linter.unusedVariables false
set_option linter.unusedSimpArgs false
theorem qBj (a b : ByteArray) : a.toList = b.toList ↔ a = b := by
  rw [ByteArray.toList_eq, ByteArray.toList_eq]
  exact ⟨fun h => ByteArray.ext (Array.ext' h), fun h => by rw [h]⟩
end Go.Proofs.YtbnoihpooeombaaDoor.X

namespace Go.Proofs.YtbnoihpooeombaaDoor.X
open Go.RowKit Go.Proofs.YtbnoihpooeombaaDoorW.PrintWords Go.Proofs.YtbnoihpooeombaaDoorW.PrintLast Go.Proofs.YtbnoihpooeombaaDoorW.PrintMore Go.Proofs.YtbnoihpooeombaaDoor.P
set_option linter.unusedVariables false
set_option linter.unusedSimpArgs false
def KeepT (w w' : World) : Prop := w.heap.size ≤ w'.heap.size ∧ ∀ (k : Nat) (cs : Array Value) (t : TypeId) (fr : Nat × Nat), w.heap[k]? = some (.cells cs t fr) → t ≠ 5 → w'.heap[k]? = some (.cells cs t fr)
theorem KeepT.trans {a b c : World} (h : KeepT a b) (k : KeepT b c) : KeepT a c := ⟨Nat.le_trans h.1 k.1, fun q cs t fr e n => k.2 q cs t fr (h.2 q cs t fr e n) n⟩
end Go.Proofs.YtbnoihpooeombaaDoor.X

namespace Go.Proofs.YtbnoihpooeombaaDoor.X
open Go.RowKit Go.WideShapes Go.ChangeShapes Go.Proofs.YtbnoihpooeombaaDoorW.PrintWords Go.Proofs.YtbnoihpooeombaaDoor.P
set_option linter.unusedVariables false
section
variable {H : Type} {enc : TypeId × Value → H} {w : World} {base : Nat} {spare : Nat → Bool} {held : Bool}
theorem qD3 {P : Program} {α : Type} (d : Kd α) (dflt : α) {t e : TypeId} (ht : P.underlying t = some (.slice e)) (hc : P.cellsOf e = d.sz) {fuel : Nat} {cs : List Value} {x : DataW H × List MemPlace}
    (hel : ∀ n cs x, n < fuel → DataW.trod enc P w base spare held n e cs = some x → ∃ y, d.K w y cs) (h : DataW.trod enc P w base spare held fuel t cs = some x) :
    ∃ (A : Option Addr) (c : Nat) (l : List α), cs = [.slice A l.length c] ∧ l.length ≤ c ∧ d.C w A l.length l := by
  rcases DataW.trod_slice ht h with ⟨rfl, _⟩ | ⟨a, len, cap, elems, rest, n, rfl, rfl, _, hb, hl, hm, hlen, hE, _, _⟩
  · exact ⟨none, 0, [], rfl, Nat.le_refl _, rfl, by simp, fun h => absurd h (by simp)⟩
  · haveI : Inhabited α := ⟨dflt⟩
    have hone : ∀ i, i < len → ∃ y : α, ∃ c : List Value, c.length = d.sz ∧ d.K w y c ∧ ∀ j u, c[j]? = some u → w.cell? (a.add (i * d.sz + j)) = some u := by
      intro i hi
      have h1 := hE i hi
      rw [List.getElem?_eq_getElem (by omega)] at h1
      obtain ⟨cs', h2, h3⟩ := Option.bind_eq_some_iff.1 h1
      obtain ⟨y, hy⟩ := hel n cs' _ (Nat.lt_succ_self n) h3
      obtain ⟨_, h4, h5⟩ := World.cells?_some h2
      rw [hc] at h4 h5
      refine ⟨y, cs', h4, hy, fun j u hj => ?_⟩
      have hjl : j < d.sz := by
        have := (List.getElem?_eq_some_iff.1 hj).1; omega
      have h6 := h5 j hjl
      rw [Go.Deep.add_add] at h6
      rw [h6, hj]
    obtain ⟨f, hf⟩ := Go.Deep.choose_lt hone
    refine ⟨some a, cap, (List.range len).map f, by simp, by simpa using hl, by simp, by simpa [maxLen] using Nat.le_trans hl hm, fun _ => ⟨a, rfl, fun j p hp => ?_⟩⟩
    have hj : j < len := by
      have := (List.getElem?_eq_some_iff.1 hp).1; simpa using this
    have : f j = p := by simpa [hj] using hp
    subst this
    exact hf j hj
set_option maxRecDepth 100000 in
theorem qEe {fuel : Nat} {cs : List Value} {x : DataW H × List MemPlace} (h : DataW.trod enc Tryd.prog w base spare held fuel 9 cs = some x) : ∃ y : ByteArray, Kd.string.K w y cs := by
  obtain ⟨s, rfl, _, _⟩ := DataW.trod_string Tryd.underlying9 h
  exact ⟨s, rfl⟩
set_option maxRecDepth 100000 in
theorem qDy {fuel : Nat} {cs : List Value} {x : DataW H × List MemPlace} (h : DataW.trod enc Tryd.prog w base spare held fuel 23 cs = some x) :
    ∃ (A : Option Addr) (c : Nat) (l : List ByteArray), cs = [.slice A l.length c] ∧ l.length ≤ c ∧ Kd.string.C w A l.length l :=
  qD3 Kd.string ByteArray.empty Tryd.underlying23 (by kernel_rfl) (fun n cs x _ h => qEe h) h
set_option maxRecDepth 100000 in
theorem qEr {r : Reach} {b0 : Nat} {v : Value} {d : DataW H} {ps : List MemPlace} (hval : Value.okWide Tryd.prog w r b0 23 v) (hd : DataW.Trod enc Tryd.prog w base spare held 23 v d ps) :
    ∃ (A : Option Addr) (c : Nat) (l : List ByteArray), v = .slice A l.length c ∧ l.length ≤ c ∧ Kd.string.C w A l.length l := by
  obtain ⟨a, n, c, rfl⟩ := okWide_slice Tryd.underlying23 hval
  obtain ⟨fuel, hf⟩ := hd
  obtain ⟨A4, d4, l4, g4, h4, r4⟩ := qDy hf
  have g4 : [Value.slice a n c] = [.slice A4 l4.length d4] := g4
  simp only [List.cons.injEq, and_true] at g4
  exact ⟨A4, d4, l4, g4, h4, r4⟩
end
end Go.Proofs.YtbnoihpooeombaaDoor.X

namespace Go.Proofs.YtbnoihpooeombaaDoor.P
open Go.Proofs.YtbnoihpooeombaaDoor.X
open Go.RowKit Go.Proofs.YtbnoihpooeombaaDoorW.PrintWords Go.Proofs.YtbnoihpooeombaaDoorW.PrintLast Go.Proofs.YtbnoihpooeombaaDoorW.PrintMore
set_option linter.unusedVariables false
set_option linter.unusedSimpArgs false
mutual
def hogsheadlaw0_GreatTexts.l0 : Nat → List ByteArray → Int → Int → Int → Option (Bool)
 | 0, _, _, _, _ => none
 | k + 1, x0, x1, x2, x7 => if x7 < (x0.length : Int) then (hogsheadlaw0_GreatTexts.j1 k x0 x1 x2 x7 (decide ((x0.length : Int) ≤ x1))) else (hogsheadlaw0_GreatTexts.j1 k x0 x1 x2 x7 false)
def hogsheadlaw0_GreatTexts.j1 : Nat → List ByteArray → Int → Int → Int → Bool → Option (Bool)
 | 0, _, _, _, _, _ => none
 | k + 1, x0, x1, x2, x7, x17 => if x17 = true then (if 0 ≤ x7 then (if x7 < (x0.length : Int) then (if ((rdOf ByteArray.empty x0 x7).size : Int) > x2 then (some true) else (hogsheadlaw0_GreatTexts.l0 k x0 x1 x2 (wrap64 (x7 + 1)))) else (none)) else (none)) else (some (decide ((x0.length : Int) > x1)))
end
def hogsheadlaw0_GreatTexts.f (k : Nat) (l0 : List ByteArray) (a1 : Int) (a2 : Int) : Option (Bool) := hogsheadlaw0_GreatTexts.l0 k l0 a1 a2 0
set_option maxHeartbeats 8000000 in
set_option maxRecDepth 100000 in
theorem hogsheadlaw0_GreatTexts.calls (k : Nat) (A0 : Option Addr) (c0 : Nat) (l0 : List ByteArray) (a1 : Int) (a2 : Int) (r : Bool) (w : World) (hr0 : Kd.C Kd.string w A0 l0.length l0) (hc0 : l0.length ≤ c0) (h : hogsheadlaw0_GreatTexts.f k l0 a1 a2 = some r) :
  Calls Tryd.prog 28 #[.slice A0 l0.length c0, .int .i64 a1, .int .i64 a2] w fun e w' => e = .returned (.bool r) ∧ Drawn0 w w' := by
 have HR0 := Aside0.mk hr0
 have HC0 := Aside0.mk hc0
 clear hr0 hc0
 have H : (hogsheadlaw0_GreatTexts.l0 k l0 a1 a2 0) = some r := h
 clear h
 have H' := Aside0.mk H
 clear H
 go_enter Tryd.func28, Tryd.ntmps28
 go_wp2
 go_loopg [7] k (fun kq v7 w' => ∃ (x7_1 : Int), v7 = .int .i64 x7_1 ∧ Aside0 (hogsheadlaw0_GreatTexts.l0 kq l0 a1 a2 x7_1 = some r) ∧ Aside0 (kq ≤ k) ∧ Drawn0 w w')
 case atStart => exact ⟨(0), (by first | rfl | (simp; done) | (simp [*]; done) | exact congrArg Value.bool (nil_ne _) | exact congrArg Value.bool (nil_eq _) | exact congrArg Value.bool (nil_ne' _)), H', ⟨Nat.le_refl _⟩, by repeat (first | exact Drawn0.refl _ | apply Drawn0.step)⟩
 case round =>
  clear H'
  try clear c2
  try clear p2
  obtain ⟨x7_1, rfl, HA, HK1, ⟨m1, rfl⟩⟩ := hrel
  cases gk with
  | zero => exact absurd HA.out (by simp [hogsheadlaw0_GreatTexts.l0])
  | succ k1 =>
   have H := HA.out
   clear HA
   simp only [hogsheadlaw0_GreatTexts.l0] at H
   have HC4 := Aside0.mk H
   clear H
   go_upto_region 2 with (fail)
   go_cut [17] (fun v17 wc => ∃ (kq : Nat) (x17_3 : Bool), v17 = .bool x17_3 ∧ Aside0 (hogsheadlaw0_GreatTexts.j1 kq l0 a1 a2 x7_1 x17_3 = some r) ∧ Aside0 (kq ≤ k1) ∧ Drawn0 w wc)
   case first =>
    have H := HC4.out
    clear HC4
    by_cases c5 : x7_1 < (l0.length : Int)
    ·rw [if_pos c5] at H
     have c5b0 : decide (x7_1 < (l0.length : Int)) = true := decide_eq_true c5
     clear c5
     (first | rw [c5b0] | (simp only [i64_w, i32_w]; rw [c5b0]) | skip)
     have H' := Aside0.mk H
     clear H
     go_wp2
     go_meet
     case rel => exact ⟨_, (decide ((l0.length : Int) ≤ a1)), (by first | rfl | (simp; done) | (simp [*]; done) | exact congrArg Value.bool (nil_ne _) | exact congrArg Value.bool (nil_eq _) | exact congrArg Value.bool (nil_ne' _)), H', ⟨by have := HK1.out; first | omega | exact Nat.le_refl _⟩, by repeat (first | exact Drawn0.refl _ | apply Drawn0.step)⟩
    ·rw [if_neg c5] at H
     have c5b0 : decide (x7_1 < (l0.length : Int)) = false := decide_eq_false c5
     clear c5
     (first | rw [c5b0] | (simp only [i64_w, i32_w]; rw [c5b0]) | skip)
     have H' := Aside0.mk H
     clear H
     go_wp2
     go_meet
     case rel => exact ⟨_, (false), (by first | rfl | (simp; done) | (simp [*]; done) | exact congrArg Value.bool (nil_ne _) | exact congrArg Value.bool (nil_eq _) | exact congrArg Value.bool (nil_ne' _)), H', ⟨by have := HK1.out; first | omega | exact Nat.le_refl _⟩, by repeat (first | exact Drawn0.refl _ | apply Drawn0.step)⟩
   case rest =>
    clear HC4
    try clear c2
    try clear p2
    try clear c5
    try clear c5b0
    try clear p2
    obtain ⟨kq, x17_3, rfl, HA, HJ3, ⟨mc3, rfl⟩⟩ := hcut
    cases kq with
    | zero => exact absurd HA.out (by simp [hogsheadlaw0_GreatTexts.j1])
    | succ kj3 =>
     have H := HA.out
     clear HA
     simp only [hogsheadlaw0_GreatTexts.j1] at H
     by_cases c6 : x17_3 = true
     ·subst c6
      have H1 : (if 0 ≤ x7_1 then (if x7_1 < (l0.length : Int) then (if ((rdOf ByteArray.empty l0 x7_1).size : Int) > a2 then (some true) else (hogsheadlaw0_GreatTexts.l0 kj3 l0 a1 a2 (wrap64 (x7_1 + 1)))) else (none)) else (none)) = some r := by rw [if_pos rfl] at H; exact H
      clear H
      have H := H1
      clear H1
      by_cases c7 : 0 ≤ x7_1
      ·rw [if_pos c7] at H
       have c7b0 : decide (0 ≤ x7_1) = true := decide_eq_true c7
       clear c7
       by_cases c8 : x7_1 < (l0.length : Int)
       ·rw [if_pos c8] at H
        have c8b0 : decide (x7_1 < (l0.length : Int)) = true := decide_eq_true c8
        clear c8
        by_cases c9 : ((rdOf ByteArray.empty l0 x7_1).size : Int) > a2
        ·rw [if_pos c9] at H
         have c9b0 : decide (a2 < ((rdOf ByteArray.empty l0 x7_1).size : Int)) = true := decide_eq_true c9
         clear c9
         obtain rfl := Option.some.inj H
         have p101 : 0 ≤ (x7_1 : Int) := of_decide_eq_true (by first | (with_reducible assumption) | assumption)
         have q101 : x7_1 < (l0.length : Int) := of_decide_eq_true (by first | (with_reducible assumption) | assumption)
         obtain ⟨ad101, e101, hx101_0⟩ := Kd.at_string HR0.out x7_1 p101 q101
         cases e101
         replace p101 := eq_true p101
         replace q101 := eq_true q101
         go_wp2
         go_ret
         exact ⟨by first | rfl | (simp; done) | (simp [*]; done), by repeat (first | exact Drawn0.refl _ | apply Drawn0.step)⟩
        ·rw [if_neg c9] at H
         have c9b0 : decide (a2 < ((rdOf ByteArray.empty l0 x7_1).size : Int)) = false := decide_eq_false c9
         clear c9
         have H' := Aside0.mk H
         clear H
         have p101 : 0 ≤ (x7_1 : Int) := of_decide_eq_true (by first | (with_reducible assumption) | assumption)
         have q101 : x7_1 < (l0.length : Int) := of_decide_eq_true (by first | (with_reducible assumption) | assumption)
         obtain ⟨ad101, e101, hx101_0⟩ := Kd.at_string HR0.out x7_1 p101 q101
         cases e101
         replace p101 := eq_true p101
         replace q101 := eq_true q101
         go_wp2
         go_roundg kj3
         case measure => have := HK1.out; have := HJ3.out; omega
         case rel => exact ⟨(wrap64 (x7_1 + 1)), (by first | rfl | (simp; done) | (simp [*]; done) | exact congrArg Value.bool (nil_ne _) | exact congrArg Value.bool (nil_eq _) | exact congrArg Value.bool (nil_ne' _)), H', ⟨by have := HK1.out; have := HJ3.out; omega⟩, by repeat (first | exact Drawn0.refl _ | apply Drawn0.step)⟩
       ·rw [if_neg c8] at H
        exact absurd H (by simp)
      ·rw [if_neg c7] at H
       exact absurd H (by simp)
     ·replace c6 := Bool.eq_false_iff.mpr c6
      subst c6
      have H1 : (some (decide ((l0.length : Int) > a1))) = some r := by rw [if_neg (show ¬ (false = true) by decide)] at H; exact H
      clear H
      have H := H1
      clear H1
      obtain rfl := Option.some.inj H
      go_wp2
      go_ret
      exact ⟨by first | rfl | (simp; done) | (simp [*]; done), by repeat (first | exact Drawn0.refl _ | apply Drawn0.step)⟩
end Go.Proofs.YtbnoihpooeombaaDoor.P

namespace Go.Proofs.YtbnoihpooeombaaDoor.X
open Go.RowKit Go.Proofs.YtbnoihpooeombaaDoorW.PrintWords Go.Proofs.YtbnoihpooeombaaDoor.P
set_option linter.unusedVariables false
set_option linter.unusedSimpArgs false
theorem qEo {z : Int} {m : Nat} (h : z = (m : Int)) (hm : m ≤ 9223372036854775807) : wrap64 z = (m : Int) := by subst h; unfold wrap64; omega
theorem qCs (l : List ByteArray) (m z : Int) (hn : m ≤ 9223372036854775807) : ∀ (d i : Nat), l.length - i = d → i ≤ l.length → (l.length : Int) ≤ m → Ev (fun k => hogsheadlaw0_GreatTexts.l0 k l m z (i : Int)) (decide (∃ s ∈ l.drop i, (s.size : Int) > z)) := by
  intro d
  induction d with
  | zero =>
    intro i hd hi hm
    refine ⟨2, fun k hk => ?_⟩
    obtain ⟨k, rfl⟩ : ∃ m, k = m + 2 := ⟨k - 2, by omega⟩
    simp only [hogsheadlaw0_GreatTexts.l0]
    rw [if_neg (by omega)]
    simp only [hogsheadlaw0_GreatTexts.j1]
    rw [if_neg (by decide), List.drop_eq_nil_of_le (by omega)]
    congr 1
    rw [decide_eq_false (by omega)]
    simp
  | succ d ih =>
    intro i hd hi hm
    have hlt : i < l.length := by omega
    obtain ⟨K, hK⟩ := ih (i + 1) (by omega) (by omega) hm
    refine ⟨K + 2, fun k hk => ?_⟩
    obtain ⟨k, rfl⟩ : ∃ m, k = m + 2 := ⟨k - 2, by omega⟩
    have hK := hK k (by omega)
    simp only at hK
    simp only [hogsheadlaw0_GreatTexts.l0]
    rw [if_pos (by omega)]
    simp only [hogsheadlaw0_GreatTexts.j1]
    rw [if_pos (decide_eq_true hm), if_pos (by omega), if_pos (by omega), qCy l i hlt, wrap_i i l.length hlt (by omega), hK, List.drop_eq_getElem_cons hlt]
    by_cases c : (l[i].size : Int) > z
    · rw [if_pos c]
      congr 1
      exact (decide_eq_true ⟨l[i], List.mem_cons_self .., c⟩).symm
    · rw [if_neg c]
      congr 1
      rw [decide_eq_decide]
      constructor
      · rintro ⟨s, hs, h⟩; exact ⟨s, List.mem_cons_of_mem _ hs, h⟩
      · rintro ⟨s, hs, h⟩
        rcases List.mem_cons.1 hs with rfl | hs
        · exact absurd h c
        · exact ⟨s, hs, h⟩
theorem qCt (l : List ByteArray) (m z : Int) (hn : m ≤ 9223372036854775807) : Ev (fun k => hogsheadlaw0_GreatTexts.f k l m z) (decide ((l.length : Int) > m ∨ ∃ s ∈ l, (s.size : Int) > z)) := by
  by_cases hm : (l.length : Int) ≤ m
  · have := qCs l m z hn l.length 0 (by omega) (by omega) hm
    rw [List.drop_zero] at this
    have e : decide ((l.length : Int) > m ∨ ∃ s ∈ l, (s.size : Int) > z) = decide (∃ s ∈ l, (s.size : Int) > z) := by
      rw [decide_eq_decide]
      exact ⟨fun h => h.elim (fun h => absurd h (by omega)) id, .inr⟩
    rw [e]
    exact this
  · refine ⟨2, fun k hk => ?_⟩
    obtain ⟨k, rfl⟩ : ∃ m, k = m + 2 := ⟨k - 2, by omega⟩
    show hogsheadlaw0_GreatTexts.l0 _ l m z 0 = _
    simp only [hogsheadlaw0_GreatTexts.l0]
    have e : decide ((l.length : Int) > m ∨ ∃ s ∈ l, (s.size : Int) > z) = true := decide_eq_true (.inl (by omega))
    rw [e]
    split
    · simp only [hogsheadlaw0_GreatTexts.j1]
      rw [if_neg (by rw [decide_eq_true_eq]; exact hm), decide_eq_true (by omega)]
    · simp only [hogsheadlaw0_GreatTexts.j1]
      rw [if_neg (by decide), decide_eq_true (by omega)]
end Go.Proofs.YtbnoihpooeombaaDoor.X

namespace Go.Proofs.YtbnoihpooeombaaDoor.X
open Go.RowKit Go.Proofs.YtbnoihpooeombaaDoorW.PrintWords
set_option linter.unusedVariables false
set_option linter.unusedSimpArgs false
theorem and15 (v : Nat) (hv : v < 18446744073709551616) : bits .and .u64 (v : Int) 15 = ((v % 16 : Nat) : Int) := by
  have h := bits_and_u64_nat v 15 hv (by omega)
  have e : v &&& 15 = v % 16 := Nat.and_two_pow_sub_one_eq_mod v 4
  rw [e] at h
  exact h
theorem e16 : IntKind.u64.wrap (bits BinOp.and IntKind.u64 16 (IntKind.u64.wrap (-16)) * 285870213051353865) / 288230376151711744 = 15 := by decide +kernel
set_option maxHeartbeats 800000 in
set_option maxRecDepth 100000 in
theorem tz16 (w : World) (hc : w.cell? ⟨3, 15, none⟩ = some (.int .u8 4)) : Calls Tryd.prog 127 #[.int .u64 16] w fun e w' => e = .returned (.int .i64 4) ∧ w = w' := by
  have h := e16
  go_enter Tryd.func127, Tryd.ntmps127
  go_wp2
  go_ret
  exact ⟨rfl, rfl⟩
set_option maxHeartbeats 1600000 in
set_option maxRecDepth 100000 in
theorem fb16 (u : Nat) (hu : u < 18446744073709551616) (w : World) (hT : Tabs w) :
    Calls Tryd.prog 117 #[.slice none 0 0, .int .u64 u, .int .i64 16, .bool false, .bool false] w fun e w' => e = .returned (.tuple #[.slice none 0 0, .string ⟨(qAj 16 u).toArray⟩]) ∧ ∃ C, w' = w.alloc (.cells C 151) := by
  have hc := hT.t16
  have hwg : 3 < w.heap.size := World.block_lt_of_cell? w _ hc
  clear hT
  go_enter Tryd.func117, Tryd.ntmps117
  have hp : ∀ W : World, Calls Tryd.prog 126 #[.int .i64 16] W fun e w' => e = .returned (.bool true) ∧ W = w' := by
    intro W
    go_enter Tryd.func126, Tryd.ntmps126
    go_wp2
    go_ret
    exact ⟨by simp; decide, rfl⟩
  have htz : ∀ W : World, W.cell? ⟨3, 15, none⟩ = some (.int .u8 4) → Calls Tryd.prog 127 #[.int .u64 16] W fun e w' => e = .returned (.int .i64 4) ∧ W = w' := fun W h => tz16 W h
  have hcA : ∀ o, (w.alloc o).cell? ⟨3, 15, none⟩ = some (.int .u8 4) := fun o => (((Below.refl w.heap.size w).alloc (Nat.le_refl _) o).cell (p := ⟨3, 15, none⟩) hwg).trans hc
  clear hc
  go_wp2_with (first | (go_at_call 126; refine (hp _).mono ?_; rintro e w' ⟨rfl, rfl⟩) | (go_at_call 127; refine (htz _ (hcA _)).mono ?_; rintro e w' ⟨rfl, rfl⟩))
  clear hp htz hcA
  go_loopw [1, 13] (fun vu vi wr => ∃ (v i : Nat) (C : Array Value) (ds : List UInt8), vu = .int .u64 v ∧ vi = .int .i64 i ∧ Hid (wr = w.alloc (.cells C 151)) ∧ Hid (Box C ds) ∧ i ≤ 65 ∧ Hid (i + ds.length = 65) ∧ v < 18446744073709551616 ∧ Hid (ds.length ≤ 64) ∧ Hid (v * 2 ^ ds.length ≤ u) ∧ Hid (qAj 16 u = qAj 16 v ++ ds)) (fun vu _ _ => (intOf vu).toNat)
  case atStart =>
    refine ⟨u, 65, _, [], rfl, rfl, rfl, ?_, by omega, rfl, hu, by show [].length ≤ 64; simp, ?_, ?_⟩
    · refine ⟨rfl, by simp, fun j hj => ⟨0, ?_⟩, fun j hj => absurd hj (by simp)⟩
      have e : Tryd.zeroCells151 = Array.replicate 65 (.int .u8 0) := rfl
      rw [e]; simp [hj]
    · show u * 2 ^ 0 ≤ u; omega
    · show _ = _ ++ []; simp
  case round =>
    obtain ⟨v, i, C, ds, rfl, rfl, hW, hB, hi, hl, hv, hn, hm, hd⟩ := hrel
    obtain rfl := hW
    have h15 := and15 v hv
    by_cases hlt : 16 ≤ v
    · have hr := room_ u v ds.length hu hm.out (by omega)
      have hi1 : 1 ≤ i := by have := hl.out; omega
      obtain ⟨z, hz⟩ := hB.out.old (i - 1) (by omega)
      have hcell : (w.alloc (.cells C 151)).cell? ⟨w.heap.size, i - 1, none⟩ = some (.int .u8 z) := by simp [World.cell?, World.alloc, -World.alloc_eq, hz]
      clear hz
      go_wp2
      have e1 : i - 1 = 64 - ds.length := by have := hl.out; omega
      have e2 : (↑v : Int) / 16 = ((v / 16 : Nat) : Int) := by omega
      refine ⟨⟨v / 16, i - 1, _, dch (v % 16) :: ds, by rw [e2], by congr 1; omega, rfl, ?_, by omega, ?_, by omega, by show (dch (v % 16) :: ds).length ≤ 64; simp only [List.length_cons]; omega, ?_, ?_⟩, by simp [intOf]; omega⟩
      · have hk : v % 16 < digs.size := by have : digs.size = 36 := rfl; omega
        have hd2 := qD7 (v % 16) (by omega) hk
        rw [e1, ← hd2]
        exact qEb hB.out (by omega) (digs[v % 16])
      · show i - 1 + (ds.length + 1) = 65
        have := hl.out; omega
      · show v / 16 * 2 ^ (ds.length + 1) ≤ u
        have := hm.out
        have h2 : v / 16 * 2 ^ (ds.length + 1) = (v / 16 * 2) * 2 ^ ds.length := by rw [Nat.pow_succ, Nat.mul_comm (2 ^ ds.length) 2, Nat.mul_assoc]
        rw [h2]
        exact Nat.le_trans (Nat.mul_le_mul_right _ (by omega)) this
      · show qAj 16 u = _
        rw [hd.out, qB4 hlt (by omega), List.append_assoc]; rfl
    · have hr := hn.out
      have hi1 : 1 ≤ i := by have := hl.out; omega
      obtain ⟨z, hz⟩ := hB.out.old (i - 1) (by omega)
      have hcell : (w.alloc (.cells C 151)).cell? ⟨w.heap.size, i - 1, none⟩ = some (.int .u8 z) := by simp [World.cell?, World.alloc, -World.alloc_eq, hz]
      clear hz
      have hsl : ∀ W, (Instr.sliceAt 151 (.pointer (some ⟨w.heap.size, 0, none⟩)) (some (.int .i64 (↑i - 1))) none none).run Tryd.prog W = .ok (.slice (some ⟨w.heap.size, i - 1, none⟩) (ds.length + 1) (ds.length + 1)) W := by
        intro W
        have hal : Tryd.prog.arrayLen 151 = 65 := by simp [Program.arrayLen, Tryd.underlying151]
        rw [run_sliceAt_array_l W 151 ⟨w.heap.size, 0, none⟩ (by simp [Program.arrayLen, Program.elem, Tryd.underlying151]) .i64 (↑i - 1) (by omega) (by rw [hal]; omega), hal]
        have hel : Tryd.prog.elem 151 = 5 := by simp [Program.elem, Tryd.underlying151]
        have e2 : ((i : Int) - 1).toNat = i - 1 := by omega
        have hne : ¬ (65 = i - 1) := by omega
        simp only [hel, e2, slicedAt, if_neg hne]
        have hl := hl.out
        have ha : (⟨w.heap.size, 0, none⟩ : Addr).add (i - 1) = ⟨w.heap.size, i - 1, none⟩ := by unfold Addr.add; split <;> simp_all
        have h3 : 65 - (i - 1) = ds.length + 1 := by omega
        go_simp
      have e1 : i - 1 = 64 - ds.length := by have := hl.out; omega
      have hb2 := qEb hB.out (by omega) (dch v)
      have hk : v < digs.size := by have : digs.size = 36 := rfl; omega
      have hdv : digs[v] = dch v := qD7 v (by omega) hk
      rw [← hdv, ← e1] at hb2
      have hcv := run_convert_bytes_back (P := Tryd.prog) (w.alloc (.cells (C.setIfInBounds (i - 1) (.int .u8 (digs[v].toNat : Int))) 151)) 78 9 5 ⟨w.heap.size, i - 1, none⟩ (ds.length + 1) (digs[v] :: ds) Tryd.underlying78 Tryd.underlying5 Tryd.underlying9 (fun j hj => by
        have h1 := hb2.new j hj
        have ha : (⟨w.heap.size, i - 1, none⟩ : Addr).add j = ⟨w.heap.size, i - 1 + j, none⟩ := by unfold Addr.add; split <;> simp_all
        have h2 : 65 - (digs[v] :: ds).length + j = i - 1 + j := by simp only [List.length_cons]; have := hl.out; omega
        rw [ha]
        rw [h2] at h1
        simp [World.cell?, World.alloc, -World.alloc_eq, h1])
      have HD := Lib.hid hdv
      have HB2 := Lib.hid hb2
      clear hdv hb2
      simp only [List.length_cons] at hcv
      clear e1
      go_wp2
      go_ret2
      refine ⟨?_, _, rfl⟩
      rw [hd.out, qBe (by omega)]
      have := HD.out
      simp [← this]
set_option maxHeartbeats 1600000 in
theorem fu16 (u : Nat) (hu : u < 18446744073709551616) (w : World) (hT : Tabs w) : Calls Tryd.prog 104 #[.int .u64 u, .int .i64 16] w fun e w' => e = .returned (.string ⟨(qAj 16 u).toArray⟩) ∧ Below w.heap.size w w' := by
  have HT := Lib.hid hT
  clear hT
  go_enter Tryd.func104, Tryd.ntmps104
  go_wp2_with (go_at_call 117; refine (fb16 u hu _ HT.out).mono ?_; rintro e w' ⟨rfl, C, rfl⟩)
  go_ret
  exact ⟨rfl, (Below.refl _ _).alloc (Nat.le_refl _) _⟩
def strconv_FormatUint.f (a0 a1 : Int) : Option ByteArray := if 0 ≤ a0 ∧ a0 < 18446744073709551616 ∧ a1 = 16 then some ⟨(qAj 16 a0.toNat).toArray⟩ else none
set_option maxHeartbeats 1600000 in
theorem strconv_FormatUint.calls (a0 a1 : Int) (r : ByteArray) (w : World) (hT : Aside0 (Tabs w)) (h : strconv_FormatUint.f a0 a1 = some r) :
    Calls Tryd.prog 89 #[.int .u64 a0, .int .i64 a1] w fun e w' => e = .returned (.string r) ∧ Below w.heap.size w w' := by
  unfold strconv_FormatUint.f at h
  split at h
  · rename_i hc
    obtain ⟨h0, h1, rfl⟩ := hc
    obtain ⟨n, rfl⟩ := Int.eq_ofNat_of_zero_le h0
    cases h
    simp only [Int.toNat_natCast]
    have hn : n < 18446744073709551616 := by omega
    clear h0 h1
    go_enter Tryd.func89, Tryd.ntmps89
    go_wp2_with (go_at_call 104; refine (fu16 n hn _ hT.out).mono ?_; rintro e w' ⟨rfl, hb⟩)
    go_ret
    exact ⟨rfl, hb⟩
  · cases h
def strings_Repeat.f (a0 : ByteArray) (a1 : Int) : Option ByteArray := if 0 ≤ a1 ∧ a1 ≤ 9223372036854775807 ∧ a0.size * a1.toNat ≤ 140737488355328 then some ⟨(Lib.repeatL a0.data.toList a1.toNat).toArray⟩ else none
theorem strings_Repeat.calls (a0 : ByteArray) (a1 : Int) (r : ByteArray) (w : World) (h : strings_Repeat.f a0 a1 = some r) :
    Calls Tryd.prog 90 #[.string a0, .int .i64 a1] w fun e w' => e = .returned (.string r) ∧ Below w.heap.size w w' := by
  unfold strings_Repeat.f at h
  split at h
  · rename_i hc
    obtain ⟨h0, h1, h2⟩ := hc
    obtain ⟨n, rfl⟩ := Int.eq_ofNat_of_zero_le h0
    cases h
    exact Tryd.strings_Repeat a0 n w (by omega) h2
  · cases h
end Go.Proofs.YtbnoihpooeombaaDoor.X

namespace Go.Proofs.YtbnoihpooeombaaDoor.P
open Go.Proofs.YtbnoihpooeombaaDoor.X
open Go.RowKit Go.Proofs.YtbnoihpooeombaaDoorW.PrintWords Go.Proofs.YtbnoihpooeombaaDoorW.PrintLast Go.Proofs.YtbnoihpooeombaaDoorW.PrintMore
set_option linter.unusedVariables false
set_option linter.unusedSimpArgs false
def cmp_isNaN_string.f (a0 : ByteArray) : Option (Bool) := some (a0.toList != a0.toList)
set_option maxHeartbeats 8000000 in
set_option maxRecDepth 100000 in
theorem cmp_isNaN_string.calls (a0 : ByteArray) (r : Bool) (w : World) (h : cmp_isNaN_string.f a0 = some r) :
  Calls Tryd.prog 98 #[.string a0] w fun e w' => e = .returned (.bool r) ∧ Drawn0 w w' := by
 have H : (some (a0.toList != a0.toList)) = some r := h
 clear h
 obtain rfl := Option.some.inj H
 go_enter Tryd.func98, Tryd.ntmps98
 go_wp2
 go_ret
 exact ⟨by first | rfl | (simp; done) | (simp [*]; done), by repeat (first | exact Drawn0.refl _ | apply Drawn0.step)⟩
end Go.Proofs.YtbnoihpooeombaaDoor.P

namespace Go.Proofs.YtbnoihpooeombaaDoor.X
open Go.RowKit Go.Proofs.YtbnoihpooeombaaDoorW.PrintWords Go.Proofs.YtbnoihpooeombaaDoor.P
set_option linter.unusedVariables false
set_option linter.unusedSimpArgs false
theorem qC7 : ∀ a : List UInt8, Op.bytesLess a a = false
  | [] => rfl
  | x :: a => by rw [Op.bytesLess]; simp [qC7 a]
theorem qDn : ∀ a b c : List UInt8, Op.bytesLess a b = true → Op.bytesLess b c = true → Op.bytesLess a c = true
  | _, [], _, h, _ => by cases a : ‹List UInt8› <;> simp [Op.bytesLess] at h
  | _, _ :: _, [], _, h => by simp [Op.bytesLess] at h
  | [], _ :: _, _ :: _, _, _ => rfl
  | x :: a, y :: b, z :: c, h, k => by
    rw [Op.bytesLess] at h k ⊢
    simp only [Bool.or_eq_true, Bool.and_eq_true, decide_eq_true_eq, beq_iff_eq] at h k ⊢
    rcases h with h | ⟨h1, h2⟩
    · rcases k with k | ⟨k1, k2⟩
      · exact .inl (UInt8.lt_trans h k)
      · exact .inl (k1 ▸ h)
    · rcases k with k | ⟨k1, k2⟩
      · exact .inl (h1 ▸ k)
      · exact .inr ⟨h1.trans k1, qDn a b c h2 k2⟩
theorem qDo : ∀ a b : List UInt8, Op.bytesLess a b = false → Op.bytesLess b a = false → a = b
  | [], [], _, _ => rfl
  | [], _ :: _, h, _ => by simp [Op.bytesLess] at h
  | _ :: _, [], _, h => by simp [Op.bytesLess] at h
  | x :: a, y :: b, h, k => by
    rw [Op.bytesLess] at h k
    simp only [Bool.or_eq_false_iff, Bool.and_eq_false_iff, decide_eq_false_iff_not, beq_eq_false_iff_ne] at h k
    have hxy : x = y := by
      rcases UInt8.lt_or_lt_of_ne (a := x) (b := y) with h1
      exact Classical.byContradiction fun e => (h1 e).elim h.1 k.1
    subst hxy
    rw [qDo a b (h.2.resolve_left (fun e => e rfl)) (k.2.resolve_left (fun e => e rfl))]
def lessB (a b : ByteArray) : Bool := Op.bytesLess a.toList b.toList
theorem qAw (a : ByteArray) : lessB a a = false := qC7 _
theorem qA9 {a b c : ByteArray} (h : lessB a b = true) (k : lessB b c = true) : lessB a c = true := qDn _ _ _ h k
theorem qDu {a b : ByteArray} (h : lessB a b = false) (k : lessB b a = false) : a = b := (qBj a b).1 (qDo _ _ h k)
theorem qAn {a : ByteArray} {l : List ByteArray} (h : qAe (a :: l) = true) : qAe l = true ∧ ∀ s ∈ l, lessB a s = true := by
  induction l generalizing a with
  | nil => exact ⟨rfl, fun s hs => by cases hs⟩
  | cons b l ih =>
    rw [qAe, Bool.and_eq_true] at h
    obtain ⟨h1, h2⟩ := h
    refine ⟨h2, fun s hs => ?_⟩
    rcases List.mem_cons.1 hs with rfl | hs
    · exact h1
    · exact qA9 h1 ((ih h2).2 s hs)
theorem qCx {a : ByteArray} {l : List ByteArray} (h : qAe l = true) (ha : ∀ s ∈ l, lessB a s = true) : qAe (a :: l) = true := by
  cases l with
  | nil => rfl
  | cons b l => rw [qAe, Bool.and_eq_true]; exact ⟨ha b (List.mem_cons_self ..), h⟩
def posK (K : List ByteArray) (key : ByteArray) : Nat := (K.takeWhile (fun s => lessB s key)).length
theorem qDb (K : List ByteArray) (key : ByteArray) : posK K key ≤ K.length := by
  unfold posK
  exact (List.takeWhile_prefix _).length_le
theorem qBr : ∀ (K : List ByteArray) (key : ByteArray), qAe K = true → ∀ (i : Nat) (h : i < K.length), lessB K[i] key = true ↔ i < posK K key
  | [], key, _, i, h => by simp at h
  | a :: K, key, hr, i, h => by
    obtain ⟨h1, h2⟩ := qAn hr
    unfold posK
    by_cases c : lessB a key = true
    · rw [List.takeWhile_cons_of_pos (p := fun s => lessB s key) c, List.length_cons]
      cases i with
      | zero => exact ⟨fun _ => by omega, fun _ => c⟩
      | succ i =>
        have := qBr K key h1 i (by simpa using h)
        unfold posK at this
        rw [List.getElem_cons_succ, this]
        omega
    · rw [List.takeWhile_cons_of_neg (p := fun s => lessB s key) c]
      cases i with
      | zero => exact ⟨fun h => absurd h c, fun h => by simp at h⟩
      | succ i =>
        rw [List.getElem_cons_succ]
        refine ⟨fun h' => absurd (qA9 (h2 _ (List.getElem_mem _)) h') c, fun h => by simp at h⟩
def isK (K : List ByteArray) (key : ByteArray) : Bool := decide (∃ h : posK K key < K.length, K[posK K key] = key)
theorem qBk (K : List ByteArray) (key : ByteArray) (hr : qAe K = true) : isK K key = true ↔ key ∈ K := by
  unfold isK
  rw [decide_eq_true_eq]
  constructor
  · rintro ⟨h, e⟩
    exact e ▸ List.getElem_mem h
  · intro h
    obtain ⟨i, hi, e⟩ := List.mem_iff_getElem.1 h
    have h1 := qBr K key hr i hi
    rw [e, qAw] at h1
    have h2 : ¬ i < posK K key := fun h => by simpa using h1.2 h
    have hp : posK K key = i := by
      rcases Nat.lt_or_ge (posK K key) i with h3 | h3
      · exfalso
        have h4 := qBr K key hr (posK K key) (by omega)
        have h5 : lessB K[posK K key] key = false := by
          cases e : lessB (K[posK K key]'(by omega)) key with
          | false => rfl
          | true => exact absurd (h4.1 e) (by omega)
        have h6 : lessB (K[posK K key]'(by omega)) K[i] = true := by
          have : ∀ (K : List ByteArray), qAe K = true → ∀ (p q : Nat) (hq : q < K.length) (hpq : p < q), lessB (K[p]'(by omega)) K[q] = true := by
            intro K
            induction K with
            | nil => intro _ p q hq; simp at hq
            | cons a K ih =>
              intro hr p q hq hpq
              obtain ⟨h1, h2⟩ := qAn hr
              cases q with
              | zero => omega
              | succ q =>
                cases p with
                | zero => exact h2 _ (List.getElem_mem _)
                | succ p => exact ih h1 p q (by simpa using hq) (by omega)
          exact this K hr _ _ hi h3
        rw [e, h5] at h6
        cases h6
      · omega
    exact ⟨by omega, by simp only [hp]; exact e⟩
end Go.Proofs.YtbnoihpooeombaaDoor.X

namespace Go.Proofs.YtbnoihpooeombaaDoor.X
open Go.RowKit Go.Proofs.YtbnoihpooeombaaDoorW.PrintWords Go.Proofs.YtbnoihpooeombaaDoor.P
set_option linter.unusedVariables false
set_option linter.unusedSimpArgs false
theorem isK_lt {K : List ByteArray} {key : ByteArray} (h : isK K key = true) : posK K key < K.length ∧ ∀ h : posK K key < K.length, K[posK K key] = key := by
  obtain ⟨h1, h2⟩ := of_decide_eq_true h
  exact ⟨h1, fun _ => h2⟩
end Go.Proofs.YtbnoihpooeombaaDoor.X

namespace Go.Proofs.YtbnoihpooeombaaDoor.X
open Go.RowKit Go.Proofs.YtbnoihpooeombaaDoorW.PrintWords Go.Proofs.YtbnoihpooeombaaDoorW.PrintLast Go.Proofs.YtbnoihpooeombaaDoorW.PrintMore Go.Proofs.YtbnoihpooeombaaDoor.P
set_option linter.unusedVariables false
set_option linter.unusedSimpArgs false
theorem qAs {P : Program} (w : World) (dT sT ty elem : TypeId) (g o dLen dCap : Nat) (a : Addr) (sLen sCap : Nat) (cur : Array Value) (t : TypeId) (cs : List Value) (sz n : Nat)
    (hu : P.underlying dT = some (.slice elem)) (hs : (P.info? elem).map (·.size) = some sz) (hg : w.heap[g]? = some (.cells cur t (0, 0))) (hn : n = Nat.min sLen dLen) (hcl : cs.length = n * sz)
    (hsrc : ∀ j v, cs[j]? = some v → w.cell? (a.add j) = some v) (hfit : o + cs.length ≤ cur.size) (h1 : ∀ v ∈ cs, v.oneCell' = true) :
    (Builtin.copy_ #[dT, sT] ty #[.slice (some ⟨g, o, none⟩) dLen dCap, .slice (some a) sLen sCap]).run P w = .ok (goInt n) (w.setRow g (cur.toList.take o ++ cs ++ cur.toList.drop (o + cs.length)).toArray) := by
  have hl := run_firstCells_some (P := P) w sz n a sLen sCap cs hcl hsrc
  have hst := run_storeCells_at P g o t cs 0 cur w hg (by simpa using hfit) h1
  cases hq : P.info? elem with
  | none => simp [hq] at hs
  | some i =>
    have hi : i.size = sz := by simpa [hq] using hs
    simp [Builtin.copy_, run_underlying hu, Builtin.lenOf, sizeOf, typeInfo, hq, hi, ← hn, hl, hst]
theorem qA6 (w : World) (g : Nat) (cs : Array Value) : w.grownBy (w.setRow g cs) (some g) :=
  ⟨rfl, rfl, rfl, by simp [World.setRow], fun k _ hk => setRow_other _ _ _ _ (fun e => hk (by rw [e]))⟩
theorem qA5 {w : World} {g t : Nat} {cur : Array Value} {xs : List Value} {m : Nat} (hg : w.heap[g]? = some (.cells cur t (0, 0))) (hx : cur.toList.take m = xs) (j : Nat) (u : Value) (hj : xs[j]? = some u) : w.cell? ⟨g, j, none⟩ = some u := by
  rw [qAz hg j]
  subst hx
  rw [List.getElem?_take] at hj
  split at hj
  · simpa using hj
  · cases hj
theorem qDd {α : Type} (cur xs ys : List α) (a s m p q : Nat) (hp : p = a + s) (hq : q = a) (hx : cur.take (a + m) = xs) (hxl : xs.length = a + m) (hys : ys.length = s) (hfit : a + s + m ≤ cur.length) (t : Nat) (ht : t = a + s + m) :
    (((cur.take p ++ xs.drop a ++ cur.drop (p + (xs.drop a).length)).take q ++ ys ++ (cur.take p ++ xs.drop a ++ cur.drop (p + (xs.drop a).length)).drop (q + ys.length))).take t = xs.take a ++ (ys ++ xs.drop a) := by
  subst hp hq ht
  have e1 : (cur.take (q + s)).length = q + s := by rw [List.length_take]; omega
  have e2 : (cur.take (q + s) ++ xs.drop q ++ cur.drop (q + s + (xs.drop q).length)).take q = xs.take q := by
    rw [List.append_assoc, List.take_append_of_le_length (by omega), List.take_take, ← hx, List.take_take]
    congr 1
    omega
  have e3 : (cur.take (q + s) ++ xs.drop q ++ cur.drop (q + s + (xs.drop q).length)).drop (q + ys.length) = xs.drop q ++ cur.drop (q + s + (xs.drop q).length) := by
    rw [hys, List.append_assoc, List.drop_append, e1, Nat.sub_self, List.drop_zero, List.drop_eq_nil_of_le (by omega), List.nil_append]
  rw [e2, e3]
  have e4 : (xs.take q ++ (ys ++ xs.drop q)).length = q + s + m := by
    simp only [List.length_append, List.length_take, List.length_drop]; omega
  have e5 : xs.take q ++ ys ++ (xs.drop q ++ cur.drop (q + s + (xs.drop q).length)) = (xs.take q ++ (ys ++ xs.drop q)) ++ cur.drop (q + s + (xs.drop q).length) := by simp only [List.append_assoc]
  rw [e5, List.take_append_of_le_length (by omega), List.take_of_length_le (by omega)]
theorem qA3 {w w1 : World} (h : Below w.heap.size w w1) (r : Option Nat) : w.grownBy w1 r := ⟨h.os, h.tape, h.output, h.size, fun k hk _ => h.block k hk⟩
end Go.Proofs.YtbnoihpooeombaaDoor.X

namespace Go.Proofs.YtbnoihpooeombaaDoor.X
open Go.RowKit Go.Proofs.YtbnoihpooeombaaDoorW.PrintWords Go.Proofs.YtbnoihpooeombaaDoorW.PrintLast Go.Proofs.YtbnoihpooeombaaDoorW.PrintMore Go.Proofs.YtbnoihpooeombaaDoor.P
set_option linter.unusedVariables false
set_option linter.unusedSimpArgs false
theorem qC9 {α : Type} {R : α → List Value → Prop} {s : Nat} {ps qs : List α} {cs ds : List Value} (h : Reps R s ps cs) (g : Reps R s qs ds) : Reps R s (ps ++ qs) (cs ++ ds) := by
  refine ⟨by rw [List.length_append, List.length_append, h.1, g.1, Nat.add_mul], fun j p hj => ?_⟩
  by_cases c : j < ps.length
  · rw [List.getElem?_append_left c] at hj
    have hm := Nat.mul_le_mul_right s (show j + 1 ≤ ps.length from c)
    rw [Nat.add_mul, Nat.one_mul, ← h.1] at hm
    rw [List.drop_append_of_le_length (by omega), List.take_append_of_le_length (by rw [List.length_drop]; omega)]
    exact h.2 j p hj
  · rw [List.getElem?_append_right (by omega)] at hj
    have e : (cs ++ ds).drop (j * s) = ds.drop ((j - ps.length) * s) := by
      have hm := Nat.mul_le_mul_right s (show ps.length ≤ j by omega)
      rw [List.drop_append, List.drop_of_length_le (by rw [h.1]; exact hm), List.nil_append, h.1, Nat.sub_mul]
    rw [e]
    exact g.2 _ p hj
theorem qBc {w : World} {base e size n c : Nat} {a : Option Addr} {xs : List Value} (h : w.ownsRow base e size (.slice a n c) n xs) : n ≤ c := by
  rcases h.2 with ⟨h1, h2⟩ | ⟨g, cap, cur, h1, _, _, h2, _⟩
  · cases h1; omega
  · cases h1; exact h2
end Go.Proofs.YtbnoihpooeombaaDoor.X

namespace Go.Proofs.YtbnoihpooeombaaDoor.X
open Go.RowKit Go.Proofs.YtbnoihpooeombaaDoorW.PrintWords Go.Proofs.YtbnoihpooeombaaDoor.P
set_option linter.unusedVariables false
set_option linter.unusedSimpArgs false
theorem qBh : ∀ (K : List ByteArray) (key : ByteArray), qAe K = true → isK K key = false → qAe (K.take (posK K key) ++ key :: K.drop (posK K key)) = true
  | [], key, _, _ => rfl
  | a :: K, key, hr, hi => by
    obtain ⟨h1, h2⟩ := qAn hr
    by_cases c : lessB a key = true
    · have hp : posK (a :: K) key = posK K key + 1 := by unfold posK; rw [List.takeWhile_cons_of_pos (p := fun s => lessB s key) c, List.length_cons]
      have hi2 : isK K key = false := by
        cases e : isK K key with
        | false => rfl
        | true =>
          have := (qBk K key h1).1 e
          rw [(qBk (a :: K) key hr).2 (List.mem_cons_of_mem _ this)] at hi
          cases hi
      rw [hp, List.take_succ_cons, List.drop_succ_cons, List.cons_append]
      refine qCx (qBh K key h1 hi2) (fun s hs => ?_)
      rcases List.mem_append.1 hs with hs | hs
      · exact h2 s (List.mem_of_mem_take hs)
      · rcases List.mem_cons.1 hs with rfl | hs
        · exact c
        · exact h2 s (List.mem_of_mem_drop hs)
    · have hp : posK (a :: K) key = 0 := by unfold posK; rw [List.takeWhile_cons_of_neg (p := fun s => lessB s key) c]; rfl
      rw [hp, List.take_zero, List.drop_zero, List.nil_append]
      have hne : a ≠ key := fun e => by
        rw [(qBk (a :: K) key hr).2 (e ▸ List.mem_cons_self ..)] at hi; cases hi
      have hka : lessB key a = true := by
        cases e : lessB key a with
        | true => rfl
        | false => exact absurd (qDu (eq_false_of_ne_true c) e) hne
      refine qCx hr (fun s hs => ?_)
      rcases List.mem_cons.1 hs with rfl | hs
      · exact hka
      · exact qA9 hka (h2 s hs)
end Go.Proofs.YtbnoihpooeombaaDoor.X

namespace Go.Proofs.YtbnoihpooeombaaDoor.P
open Go.Proofs.YtbnoihpooeombaaDoor.X
open Go.RowKit Go.Proofs.YtbnoihpooeombaaDoorW.PrintWords Go.Proofs.YtbnoihpooeombaaDoorW.PrintLast Go.Proofs.YtbnoihpooeombaaDoorW.PrintMore
set_option linter.unusedVariables false
set_option linter.unusedSimpArgs false
def hogsheadlaw0_Low.f (a0 : Int) (a1 : Int) : Option (Int) := if (IntKind.u64.wrap (a1)) = 0 then (none) else (some (wrap64 (Int.tmod (IntKind.u64.wrap (a0)) (IntKind.u64.wrap (a1)))))
set_option maxHeartbeats 8000000 in
set_option maxRecDepth 100000 in
theorem hogsheadlaw0_Low.calls (a0 : Int) (a1 : Int) (r : Int) (w : World) (h : hogsheadlaw0_Low.f a0 a1 = some r) :
  Calls Tryd.prog 32 #[.int .i64 a0, .int .i64 a1] w fun e w' => e = .returned (.int .i64 r) ∧ Drawn0 w w' := by
 have H : (if (IntKind.u64.wrap (a1)) = 0 then (none) else (some (wrap64 (Int.tmod (IntKind.u64.wrap (a0)) (IntKind.u64.wrap (a1)))))) = some r := h
 clear h
 by_cases c3 : (IntKind.u64.wrap (a1)) = 0
 ·rw [if_pos c3] at H
  exact absurd H (by simp)
 ·rw [if_neg c3] at H
  have c3b0 : ((IntKind.u64.wrap (a1)) == 0) = false := beq_eq_false_iff_ne.mpr c3
  have c3b1 : ((IntKind.u64.wrap (a1)) != 0) = true := bne_iff_ne.mpr c3
  obtain rfl := Option.some.inj H
  go_enter Tryd.func32, Tryd.ntmps32
  go_wp2
  go_ret
  exact ⟨by first | rfl | (simp; done) | (simp [*]; done), by repeat (first | exact Drawn0.refl _ | apply Drawn0.step)⟩
end Go.Proofs.YtbnoihpooeombaaDoor.P

namespace Go.Proofs.YtbnoihpooeombaaDoor.X
open Go.RowKit Go.Proofs.YtbnoihpooeombaaDoorW.PrintWords Go.Proofs.YtbnoihpooeombaaDoor.P
set_option linter.unusedVariables false
set_option linter.unusedSimpArgs false
theorem qD4 (a n : Int) (h1 : 1 ≤ n) (h2 : n ≤ 100000) : ∃ m : Nat, hogsheadlaw0_Low.f a n = some (m : Int) ∧ (m : Int) < n := by
  have e : IntKind.u64.wrap n = n := by simp [IntKind.wrap, IntKind.bits, IntKind.signed]; omega
  obtain ⟨u, hu⟩ : ∃ u : Nat, IntKind.u64.wrap a = (u : Int) := by
    refine Int.eq_ofNat_of_zero_le ?_
    simp [IntKind.wrap, IntKind.bits, IntKind.signed]
    omega
  obtain ⟨v, rfl⟩ := Int.eq_ofNat_of_zero_le (show 0 ≤ n by omega)
  refine ⟨u % v, ?_, ?_⟩
  · unfold hogsheadlaw0_Low.f
    rw [e, hu]
    clear e hu
    rw [if_neg (by omega)]
    have hm : Int.tmod (u : Int) (v : Int) = ((u % v : Nat) : Int) := by rw [Int.tmod_eq_emod_of_nonneg (by omega)]; rfl
    rw [hm]
    have := Nat.mod_lt u (show 0 < v by omega)
    exact congrArg some (qEo rfl (by omega))
  · have := Nat.mod_lt u (show 0 < v by omega)
    omega
end Go.Proofs.YtbnoihpooeombaaDoor.X

namespace Go.Proofs.YtbnoihpooeombaaDoor.X
open Go.RowKit Go.Proofs.YtbnoihpooeombaaDoorW.PrintWords Go.Proofs.YtbnoihpooeombaaDoor.P
set_option linter.unusedVariables false
set_option linter.unusedSimpArgs false
theorem tw_all {α : Type} (p : α → Bool) : ∀ l : List α, (∀ x ∈ l, p x = true) → l.takeWhile p = l
  | [], _ => rfl
  | a :: l, h => by rw [List.takeWhile_cons_of_pos (h a (List.mem_cons_self ..)), tw_all p l (fun x hx => h x (List.mem_cons_of_mem _ hx))]
theorem qEh {K : List ByteArray} {key : ByteArray} (h : ∀ s ∈ K, lessB s key = true) : posK K key = K.length ∧ isK K key = false := by
  have hp : posK K key = K.length := by
    unfold posK
    rw [tw_all _ K (fun s hs => h s hs)]
  refine ⟨hp, decide_eq_false (fun ⟨h1, _⟩ => ?_)⟩
  rw [hp] at h1
  omega
theorem qCd : ∀ (K : List ByteArray) (a : ByteArray) (l : List ByteArray), qAe (K ++ a :: l) = true → ∀ s ∈ K, lessB s a = true
  | [], a, l, _, s, hs => by cases hs
  | b :: K, a, l, h, s, hs => by
    obtain ⟨h1, h2⟩ := qAn h
    rcases List.mem_cons.1 hs with rfl | hs
    · exact h2 a (List.mem_append_right _ (List.mem_cons_self ..))
    · exact qCd K a l h1 s hs
end Go.Proofs.YtbnoihpooeombaaDoor.X

namespace Go.Proofs.YtbnoihpooeombaaDoor.X
open Go.RowKit Go.Proofs.YtbnoihpooeombaaDoorW.PrintWords Go.Proofs.YtbnoihpooeombaaDoorW.PrintLast Go.Proofs.YtbnoihpooeombaaDoorW.PrintMore Go.Proofs.YtbnoihpooeombaaDoor.P
set_option linter.unusedVariables false
set_option linter.unusedSimpArgs false
theorem qEi {w : World} {base e size n : Nat} {a : Option Addr} {c : Nat} {xs : List Value} (h : w.ownsRow base e size (.slice a n c) n xs) : ∀ ad, a = some ad → ∀ j u, xs[j]? = some u → w.cell? (ad.add j) = some u := by
  intro ad ha j u hu
  subst ha
  rcases h.2 with ⟨e1, _⟩ | ⟨g, cap, cur, he, hg, hh, _, _, _, ht⟩
  · cases e1
  · injection he with e1 e2 e3
    cases e1
    have e4 : (⟨g, 0, none⟩ : Addr).add j = ⟨g, j, none⟩ := by
      simp only [Addr.add, Nat.zero_add]; split <;> first | rfl | (rename_i h_; rw [h_])
    rw [e4]
    exact qA5 hh ht j u hu
theorem qEj {w : World} {g t : Nat} {cs : List Value} (h : w.heap[g]? = some (.cells cs.toArray t (0, 0))) : ∀ ad, some (⟨g, 0, none⟩ : Addr) = some ad → ∀ j u, cs[j]? = some u → w.cell? (ad.add j) = some u := by
  intro ad ha j u hu
  cases ha
  have e4 : (⟨g, 0, none⟩ : Addr).add j = ⟨g, j, none⟩ := by
    simp only [Addr.add, Nat.zero_add]; split <;> first | rfl | (rename_i h_; rw [h_])
  rw [e4, qAz h j]
  simpa using hu
end Go.Proofs.YtbnoihpooeombaaDoor.X

namespace Go.Proofs.YtbnoihpooeombaaDoor.X
open Go.RowKit Go.Proofs.YtbnoihpooeombaaDoorW.PrintWords Go.Proofs.YtbnoihpooeombaaDoorW.PrintLast Go.Proofs.YtbnoihpooeombaaDoorW.PrintMore Go.Proofs.YtbnoihpooeombaaDoor.P
set_option linter.unusedVariables false
set_option linter.unusedSimpArgs false
def cmpB (a b : ByteArray) : Int := if lessB a b = true then -1 else if (a.toList == b.toList) = true then 0 else 1
theorem qDl (a : ByteArray) : cmp_isNaN_string.f a = some false := by
  unfold cmp_isNaN_string.f
  simp
set_option maxHeartbeats 1600000 in
theorem qEa (a b : ByteArray) (w : World) : Calls Tryd.prog 84 #[.string a, .string b] w fun e w' => e = .returned (.int .i64 (cmpB a b)) ∧ Below w.heap.size w w' := by
  have h1 := qDl a
  have h2 := qDl b
  have H1 := Aside0.mk h1
  have H2 := Aside0.mk h2
  clear h1 h2
  have HC := Aside0.mk (rfl : cmpB a b = if lessB a b = true then -1 else if (a.toList == b.toList) = true then 0 else 1)
  obtain ⟨b1, hb1⟩ : ∃ b1, Op.bytesLess a.toList b.toList = b1 := ⟨_, rfl⟩
  obtain ⟨b2, hb2⟩ : ∃ b2, (a.toList == b.toList) = b2 := ⟨_, rfl⟩
  have hc : cmpB a b = if b1 = true then -1 else if b2 = true then 0 else 1 := by rw [HC.out, ← hb1, ← hb2]; rfl
  clear HC
  have hb3 : (a.toList != b.toList) = !b2 := by rw [← hb2]; rfl
  generalize cmpB a b = c at *
  have HC := Aside0.mk hc
  clear hc
  go_enter Tryd.func84, Tryd.ntmps84
  go_wp2_with fail
  refine (cmp_isNaN_string.calls a false w H1.out).mono ?_
  rintro e w1 ⟨rfl, hd1⟩
  go_wp2_with fail
  refine (cmp_isNaN_string.calls b false w1 H2.out).mono ?_
  rintro e w2 ⟨rfl, hd2⟩
  have hd := Aside0.mk (qAa hd1.below hd2.below)
  clear hd1 hd2
  cases b1 <;> cases b2
  all_goals
    have hc := HC.out
    simp only [Bool.false_eq_true, if_false, if_true, reduceIte] at hc
    subst hc
    go_wp2_with fail
    go_ret
    exact ⟨rfl, hd.out⟩
set_option maxHeartbeats 1600000 in
theorem qB3 (x : S68) (d : ByteArray) (w : World) : Calls Tryd.prog 83 #[.agg #[.string x.f0, .string x.f1], .string d] w fun e w' => e = .returned (.int .i64 (cmpB x.f0 d)) ∧ Below w.heap.size w w' := by
  have HB := Aside0.mk (qAc (Below.refl w.heap.size w) (.cells #[.string x.f0, .string x.f1] 68))
  go_enter Tryd.func83, Tryd.ntmps83
  go_wp2_with fail
  refine (qEa x.f0 d _).mono ?_
  rintro e w1 ⟨rfl, hd⟩
  have HB1 := Aside0.mk (qAa HB.out hd)
  clear hd
  go_wp2_with fail
  go_ret
  exact ⟨rfl, HB1.out⟩
def dgs (L : List S68) : List ByteArray := L.map (·.f0)
theorem qAx (L : List S68) : (dgs L).length = L.length := by simp [dgs]
theorem qCu (L : List S68) (i : Nat) (h : i < L.length) : (dgs L)[i]'(by rw [qAx]; exact h) = L[i].f0 := by simp [dgs]
theorem qBw (l : List S68) (i : Nat) (h : i < l.length) : rd_T68 l (i : Int) = l[i] := by
  simp [rd_T68, List.getD_eq_getElem?_getD, h]
theorem cmp_lt (a b : ByteArray) : (cmpB a b < 0) ↔ lessB a b = true := by
  unfold cmpB
  split
  · rename_i h; simp [h]
  · rename_i h
    split <;> simp [h]
theorem cmp_eq (a b : ByteArray) : (cmpB a b = 0) ↔ a = b := by
  unfold cmpB
  split
  · rename_i h
    constructor
    · intro e; cases e
    · intro e; subst e; rw [qAw] at h; cases h
  · split
    · rename_i h; simp only [true_iff]; exact (qBj a b).1 (beq_iff_eq.1 h)
    · rename_i h
      constructor
      · intro e; cases e
      · intro e; subst e; simp at h
set_option maxHeartbeats 4000000 in
set_option maxRecDepth 100000 in
theorem qCo (A : Option Addr) (c : Nat) (L : List S68) (d : ByteArray) (w : World) (hr : Kd.C k68 w A L.length L) (hc : L.length ≤ c) (hs : qAe (dgs L) = true) (hn : L.length ≤ 1000000) :
    Calls Tryd.prog 82 #[.slice A L.length c, .string d, .func (.func 83) #[] #[]] w fun e w' => e = .returned (.tuple #[.int .i64 (posK (dgs L) d : Nat), .bool (isK (dgs L) d)]) ∧ Below w.heap.size w w' := by
  have X := Aside0.mk hr
  have HS := Aside0.mk hs
  have HB0 := Aside0.mk (Below.refl w.heap.size w)
  have hpl : posK (dgs L) d ≤ L.length := by have := qDb (dgs L) d; rw [qAx] at this; exact this
  have HPI := Aside0.mk (fun (i : Nat) (h : i < L.length) => (by
    have := qBr (dgs L) d hs i (by rw [qAx]; exact h)
    rw [qCu L i h] at this
    exact this : lessB L[i].f0 d = true ↔ i < posK (dgs L) d))
  have HII := Aside0.mk (by
    unfold isK
    rw [decide_eq_decide]
    constructor
    · rintro ⟨h, e⟩
      rw [qAx] at h
      refine ⟨h, ?_⟩
      rw [qCu L _ h] at e
      exact e
    · rintro ⟨h, e⟩
      refine ⟨by rw [qAx]; exact h, ?_⟩
      rw [qCu L _ h]
      exact e : isK (dgs L) d = decide (∃ h : posK (dgs L) d < L.length, L[posK (dgs L) d].f0 = d))
  generalize posK (dgs L) d = p at *
  generalize isK (dgs L) d = q at *
  clear hr hs
  go_enter Tryd.func82, Tryd.ntmps82
  go_wp2_with fail
  go_loopw [9, 10] (fun v9 v10 wr => ∃ i j : Nat, v9 = .int .i64 i ∧ v10 = .int .i64 j ∧ i ≤ p ∧ p ≤ j ∧ j ≤ L.length ∧ Aside0 (Below w.heap.size w wr)) (fun a b _ => (intOf b - intOf a).toNat)
  case atStart => exact ⟨0, L.length, rfl, rfl, by omega, by omega, by omega, HB0⟩
  case round =>
    obtain ⟨i, j, rfl, rfl, hi, hj, hjl, HB⟩ := hrel
    clear HB0
    by_cases hlt : i < j
    · have hcond : decide ((i : Int) < (j : Int)) = true := by simp; omega
      have hh0 : 0 ≤ ((i : Int) + (j : Int)) / 2 := by omega
      have hh1 : ((i : Int) + (j : Int)) / 2 < (L.length : Int) := by omega
      obtain ⟨ad, rfl, z0, z1⟩ := at_T68 (Kd.C_below X.out HB.out) (((i : Int) + (j : Int)) / 2) hh0 hh1
      rw [show (((i : Int) + (j : Int)) / 2).toNat = (i + j) / 2 by omega] at z0 z1
      have HX := Aside0.mk (show rd_T68 L (((i : Int) + (j : Int)) / 2) = L[(i + j) / 2]'(by omega) from by rw [show ((i : Int) + (j : Int)) / 2 = (((i + j) / 2 : Nat) : Int) by omega]; exact qBw L _ (by omega))
      generalize rd_T68 L (((i : Int) + (j : Int)) / 2) = x at *
      have hpi := HPI.out ((i + j) / 2) (by omega)
      rw [← HX.out] at hpi
      go_wp2_with fail
      refine (qB3 x d wr).mono ?_
      rintro e w1 ⟨rfl, hb1⟩
      have HB1 := Aside0.mk (qAa HB.out hb1)
      clear hb1 z0 z1
      cases hl : lessB x.f0 d with
      | true =>
        have hcm : decide (cmpB x.f0 d < 0) = true := decide_eq_true ((cmp_lt _ _).2 hl)
        have hp := hpi.1 hl
        generalize cmpB x.f0 d = cb at *
        clear hl hpi HX HB
        go_wp2_with fail
        go_roundw
        case rel => exact ⟨(i + j) / 2 + 1, j, by rw [show ((((i + j) / 2 + 1 : Nat)) : Int) = ((i : Int) + (j : Int)) / 2 + 1 by omega], rfl, by omega, hj, hjl, HB1⟩
        case measure => simp [intOf]; omega
      | false =>
        have hcm : decide (cmpB x.f0 d < 0) = false := by
          rw [decide_eq_false_iff_not, cmp_lt, hl]
          simp
        have hp : ¬ (i + j) / 2 < p := fun c => by rw [hpi.2 c] at hl; cases hl
        generalize cmpB x.f0 d = cb at *
        clear hl hpi HX HB
        go_wp2_with fail
        go_roundw
        case rel => exact ⟨i, (i + j) / 2, rfl, by rw [show ((((i + j) / 2 : Nat)) : Int) = ((i : Int) + (j : Int)) / 2 by omega], hi, by omega, by omega, HB1⟩
        case measure => simp [intOf]; omega
    · have hcond : decide ((i : Int) < (j : Int)) = false := by simp; omega
      have hcondn : decide (i < j) = false := by simp; omega
      obtain rfl : i = p := by omega
      clear hlt
      by_cases hil : i < L.length
      · have hilc : decide ((i : Int) < (L.length : Int)) = true := by simp; omega
        have hilcn : decide (i < L.length) = true := by simp; omega
        have hi0 : 0 ≤ (i : Int) := by omega
        obtain ⟨ad, rfl, z0, z1⟩ := at_T68 (Kd.C_below X.out HB.out) (i : Int) hi0 (by omega)
        simp only [Int.toNat_natCast] at z0 z1
        have HX := Aside0.mk (qBw L i hil)
        generalize rd_T68 L (i : Int) = x at *
        have HQ := Aside0.mk (show q = (cmpB x.f0 d == 0) by
          rw [HII.out, Bool.eq_iff_iff, decide_eq_true_eq, beq_iff_eq, cmp_eq, HX.out]
          exact ⟨fun ⟨_, h⟩ => h, fun h => ⟨hil, h⟩⟩)
        clear HX HII HPI
        go_wp2_with fail
        refine (qB3 x d wr).mono ?_
        rintro e w1 ⟨rfl, hb1⟩
        have HB1 := Aside0.mk (qAa HB.out hb1)
        clear hb1 z0 z1 HB
        generalize cmpB x.f0 d = cb at *
        go_wp2_with fail
        go_ret2
        exact ⟨by rw [HQ.out]; rfl, HB1.out⟩
      · have hilc : decide ((i : Int) < (L.length : Int)) = false := by simp; omega
        have hilcn : decide (i < L.length) = false := by simp; omega
        have HQ := Aside0.mk (show q = false by
          rw [HII.out, decide_eq_false_iff_not]
          exact fun ⟨h, _⟩ => hil h)
        clear HII HPI hil
        go_wp2_with fail
        go_ret2
        exact ⟨by rw [HQ.out]; rfl, HB.out⟩
end Go.Proofs.YtbnoihpooeombaaDoor.X

namespace Go.Proofs.YtbnoihpooeombaaDoor.X
open Go.RowKit Go.Proofs.YtbnoihpooeombaaDoorW.PrintWords Go.Proofs.YtbnoihpooeombaaDoorW.PrintLast Go.Proofs.YtbnoihpooeombaaDoorW.PrintMore Go.Proofs.YtbnoihpooeombaaDoor.P
set_option linter.unusedVariables false
set_option linter.unusedSimpArgs false
set_option maxHeartbeats 3200000 in
set_option maxRecDepth 100000 in
theorem qDf (v : Value) (n base vb tv : Nat) (xs ys : List Value) (w : World) (ho : w.ownsRow base 68 2 v n xs) (hv : w.heap[vb]? = some (.cells ys.toArray tv (0, 0))) (hys : ys.length = 2) (hbase : base ≤ w.heap.size) (hbig : (n + 1) * 32 ≤ 140737488355328) (h1y : ∀ u ∈ ys, u.oneCell' = true) :
    Calls Tryd.prog 59 #[v, .int .i64 n, .slice (some ⟨vb, 0, none⟩) 1 1] w fun e w' => ∃ v', e = .returned v' ∧ w'.ownsRow base 68 2 v' (n + 1) (xs ++ ys) ∧ w.grownBy w' v.ownBlock ∧ (v'.ownBlock = v.ownBlock ∨ ∃ b, v'.ownBlock = some b ∧ w.heap.size ≤ b) := by
  obtain ⟨i0, hi0, hz0, hzs, hzb⟩ := info_parts (show (Tryd.prog.info? 68).map (fun i => (i.zero, i.size, i.bytes)) = some (some (.agg #[.string ⟨#[]⟩, .string ⟨#[]⟩]), 2, 32) by kernel_rfl)
  obtain ⟨hl, hcase⟩ := ho
  have hcy : ∀ j u, ys[j]? = some u → w.cell? ((⟨vb, 0, none⟩ : Addr).add j) = some u := fun j u hj => by
    rw [qA2, qAz hv j]; simpa using hj
  rcases hcase with ⟨rfl, rfl⟩ | ⟨g, cap, cur, rfl, hgb, hg, hnc, hcm, hcs, htk⟩
  · obtain rfl : xs = [] := List.length_eq_zero_iff.1 (by omega)
    have hap := fun ty => run_append_grow_src (P := Tryd.prog) (w := w) 55 55 ty 68 i0 _ Tryd.underlying55 hi0 hz0 none 0 0 []
      (run_firstCells_none _ _ _ _ _) (.slice (some ⟨vb, 0, none⟩) 1 1) 1 ys
      (by rw [hzs]; exact Src.ofSlice _ Tryd.underlying55 ⟨vb, 0, none⟩ 1 1 ys (by omega) hcy h1y) (by omega) (by omega) (by rw [hzb]; exact growslice_fits (by omega) (by omega))
    have hge := grownCap_ge w (0 + 1) 0 68
    have hle := grownCap_le_maxLen w (0 + 1) 0 68 (by unfold maxLen; omega)
    generalize grownCap w (0 + 1) 0 68 = G at *
    simp only [Nat.zero_add, List.nil_append] at hap hge
    have HAP := Aside0.mk hap
    have HGE := Aside0.mk hge
    have HLE := Aside0.mk hle
    clear hap hge hle hcy hl hv
    go_enter Tryd.func59, Tryd.ntmps59
    go_wp2_with (at_builtin; refine qAk rfl _ _ 55 55 rfl _ _ _ _ rfl rfl (HAP.out _) ?_)
    go_ret
    exact ⟨_, rfl, qBy (size := 2) (z := (.agg #[.string ⟨#[]⟩, .string ⟨#[]⟩] : Value).cells) (by omega) rfl HGE.out HLE.out _ rfl hbase, qA3 (qAg (qAc (Below.refl _ _) _)) _, .inr ⟨_, rfl, Nat.le_refl _⟩⟩
  · have hcx : ∀ j u, xs[j]? = some u → w.cell? ((⟨g, 0, none⟩ : Addr).add j) = some u := fun j u hj => by
      rw [qA2]; exact qA5 hg htk j u hj
    unfold maxLen at hcm
    by_cases hroom : n + 1 ≤ cap
    · have hap := fun ty => run_append_room (P := Tryd.prog) w 55 ty 68 i0 Tryd.underlying55 hi0 g n cap cur hg ⟨vb, 0, none⟩ 1 1 ys (by rw [hzs]; omega) hcy h1y hroom (by rw [hzs, hcs, hys]; have := Nat.mul_le_mul_right 2 hroom; omega)
      have HAP := Aside0.mk hap
      have HG := Aside0.mk hg
      have HT := Aside0.mk htk
      clear hap hcy hcx hv htk hg
      go_enter Tryd.func59, Tryd.ntmps59
      go_wp2_with (at_builtin; refine qAk rfl _ _ 55 55 rfl _ _ _ _ rfl rfl (HAP.out _) ?_)
      go_ret
      refine ⟨_, rfl, ⟨by rw [List.length_append, hl, hys]; omega, .inr ⟨g, cap, _, rfl, hgb, setRow_heap _ _ _ _ _ _ HG.out, hroom, by unfold maxLen; omega, ?_, ?_⟩⟩, qA6 _ _ _, .inl rfl⟩
      · have h2 := Nat.mul_le_mul_right 2 hroom
        simp only [hzs, List.size_toArray, List.length_append, List.length_take, List.length_drop, Array.length_toList, hcs, hys]
        omega
      · have HT' : cur.toList.take (n * 2) = xs := HT.out
        simp only [hzs, Nat.mul_one] at HT' ⊢
        rw [HT', ← List.append_assoc, List.take_append_of_le_length (by rw [List.length_append, hl, hys]; omega), List.take_of_length_le (by rw [List.length_append, hl, hys]; omega)]
    · have hap := fun ty => run_append_grow_src (P := Tryd.prog) (w := w) 55 55 ty 68 i0 _ Tryd.underlying55 hi0 hz0 (some ⟨g, 0, none⟩) n cap xs
        (by rw [hzs]; exact run_firstCells_some _ 2 n ⟨g, 0, none⟩ n cap xs hl hcx) (.slice (some ⟨vb, 0, none⟩) 1 1) 1 ys
        (by rw [hzs]; exact Src.ofSlice _ Tryd.underlying55 ⟨vb, 0, none⟩ 1 1 ys (by omega) hcy h1y) (by omega) (by omega) (by rw [hzb]; exact growslice_fits (by omega) (by omega))
      have hge := grownCap_ge w (n + 1) cap 68
      have hle := grownCap_le_maxLen w (n + 1) cap 68 (by unfold maxLen; omega)
      generalize grownCap w (n + 1) cap 68 = G at *
      have HAP := Aside0.mk hap
      have HGE := Aside0.mk hge
      have HLE := Aside0.mk hle
      clear hap hge hle hcy hcx hv
      go_enter Tryd.func59, Tryd.ntmps59
      go_wp2_with (at_builtin; refine qAk rfl _ _ 55 55 rfl _ _ _ _ rfl rfl (HAP.out _) ?_)
      go_ret
      exact ⟨_, rfl, qBy (size := 2) (z := (.agg #[.string ⟨#[]⟩, .string ⟨#[]⟩] : Value).cells) (by rw [List.length_append, hl, hys]; omega) rfl HGE.out HLE.out _ rfl hbase, qA3 (qAg (qAc (Below.refl _ _) _)) _, .inr ⟨_, rfl, Nat.le_refl _⟩⟩
set_option maxHeartbeats 6400000 in
set_option maxRecDepth 100000 in
theorem qDe (v : Value) (n i base vb tv : Nat) (xs ys : List Value) (w : World) (ho : w.ownsRow base 68 2 v n xs) (hi : i < n) (hv : w.heap[vb]? = some (.cells ys.toArray tv (0, 0))) (hys : ys.length = 2) (hne : some vb ≠ v.ownBlock) (hbase : base ≤ w.heap.size) (hbig : (n + 1) * 32 ≤ 140737488355328) (h1x : ∀ u ∈ xs, u.oneCell' = true) (h1y : ∀ u ∈ ys, u.oneCell' = true) :
    Calls Tryd.prog 59 #[v, .int .i64 i, .slice (some ⟨vb, 0, none⟩) 1 1] w fun e w' => ∃ v', e = .returned v' ∧ w'.ownsRow base 68 2 v' (n + 1) (xs.take (i * 2) ++ (ys ++ xs.drop (i * 2))) ∧ w.grownBy w' v.ownBlock ∧ (v'.ownBlock = v.ownBlock ∨ ∃ b, v'.ownBlock = some b ∧ w.heap.size ≤ b) := by
  obtain ⟨i0, hi0, hz0, hzs, hzb⟩ := info_parts (show (Tryd.prog.info? 68).map (fun i => (i.zero, i.size, i.bytes)) = some (some (.agg #[.string ⟨#[]⟩, .string ⟨#[]⟩]), 2, 32) by kernel_rfl)
  have hsi : (Tryd.prog.info? 68).map (·.size) = some 2 := by rw [hi0]; simp [hzs]
  obtain ⟨hl, hcase⟩ := ho
  rcases hcase with ⟨_, h0⟩ | ⟨g, cap, cur, rfl, hgb, hg, hnc, hcm, hcs, htk⟩
  · omega
  have hng : vb ≠ g := fun e => hne (by rw [e]; rfl)
  unfold maxLen at hcm
  have hnc1 : ¬ (cap = i) := by omega
  have hin : ¬ ((i : Int) = (n : Int)) := by omega
  have mixed : Tryd.prog.follows .mixedOrders = true := by kernel_rfl
  have hb1 : (0 : Int) ≤ (i : Int) + 1 := by omega
  have hin' : i ≤ n := by omega
  have htn : ((i : Int) + 1).toNat = i + 1 := by omega
  have hb3 : (i : Int) ≤ (n : Int) + 1 := by omega
  have hdl : (xs.drop (i * 2)).length = (n - i) * 2 := by rw [List.length_drop, hl]; omega
  by_cases hroom : n + 1 ≤ cap
  · have hw1 : IntKind.i64.wrap ((i : Int) + 1) = ((i + 1 : Nat) : Int) := by rw [IntKind.wrap_i64]; omega
    have hnc2 : ¬ (cap = i + 1) := by omega
    have hov : ∀ lb cb W, W.heap[vb]? = some (.cells ys.toArray tv (0, 0)) → W.heap[g]? = some (.cells cur 68 (0, 0)) → (callFunc 85 #[.slice (some ⟨vb, 0, none⟩) 1 1, .slice (some ⟨g, (i + 1) * 2, none⟩) lb cb]).run Tryd.prog W = .ok (.value (.bool false)) W := fun lb cb W hv hg => by
      rw [run_callFunc_extern Tryd.func85 (by kernel_rfl) (by kernel_rfl) (by kernel_rfl) (e := Extern.SlicesOverlaps.overlaps #[55, 55] #[4]) (by kernel_rfl),
        Lib.run_overlaps_apart W 55 4 68 Tryd.underlying55 2 Tryd.sizeOf68 ⟨vb, 0, none⟩ ⟨g, (i + 1) * 2, none⟩ 1 1 lb cb hng tv 68 ys.length (cap * 2) (by simp [World.shape?, hv]) (by simp [World.shape?, hg, hcs]) (by omega) (qBm hv 0) (qBm hv _)]
      rfl
    have h6 : (n - i) * 2 + i * 2 = n * 2 := by rw [← Nat.add_mul]; congr 1; omega
    have h7 : (i + 1) * 2 + (n - i) * 2 ≤ cap * 2 := by rw [← Nat.add_mul]; exact Nat.mul_le_mul_right _ (by omega)
    have h8 : i * 2 + 2 ≤ cap * 2 := by
      have := Nat.mul_le_mul_right 2 (show i + 1 ≤ cap by omega)
      rw [Nat.add_mul] at this; omega
    obtain ⟨cur1, hcur1⟩ : ∃ c : Array Value, c = (cur.toList.take ((i + 1) * 2) ++ xs.drop (i * 2) ++ cur.toList.drop ((i + 1) * 2 + (xs.drop (i * 2)).length)).toArray := ⟨_, rfl⟩
    obtain ⟨cur2, hcur2⟩ : ∃ c : Array Value, c = (cur1.toList.take (i * 2) ++ ys ++ cur1.toList.drop (i * 2 + ys.length)).toArray := ⟨_, rfl⟩
    have hc1s : cur1.size = cap * 2 := by
      rw [hcur1]; simp only [List.size_toArray, List.length_append, List.length_take, List.length_drop, Array.length_toList, hcs, hl]; omega
    have hc2s : cur2.size = cap * 2 := by
      rw [hcur2]; simp only [List.size_toArray, List.length_append, List.length_take, List.length_drop, Array.length_toList, hc1s, hys]; omega
    have hcp1 : ∀ W : World, W.heap[g]? = some (.cells cur 68 (0, 0)) → ∀ ty dc sc, (Builtin.copy_ #[55, 55] ty #[.slice (some ⟨g, (i + 1) * 2, none⟩) (n - i) dc, .slice (some ⟨g, i * 2, none⟩) (n + 1 - i) sc]).run Tryd.prog W = .ok (goInt (n - i : Nat)) (W.setRow g cur1) := fun W hW ty dc sc => by
      rw [hcur1]
      exact qAs W _ _ ty _ g ((i + 1) * 2) (n - i) dc ⟨g, i * 2, none⟩ (n + 1 - i) sc cur _ (xs.drop (i * 2)) 2 (n - i) Tryd.underlying55 hsi hW (by simp only [Nat.min_def]; split <;> omega) hdl
        (fun j u hj => by
          rw [Addr.add_lit]
          exact qA5 hW htk _ u (by rw [List.getElem?_drop] at hj; exact (congrArg (fun k => xs[k]?) (by omega)).trans hj)) (by rw [hdl, hcs]; omega) (fun u hu => h1x u (List.mem_of_mem_drop hu))
    have hcp2 : ∀ W : World, W.heap[g]? = some (.cells cur1 68 (0, 0)) → W.heap[vb]? = some (.cells ys.toArray tv (0, 0)) → ∀ ty dc, (Builtin.copy_ #[55, 55] ty #[.slice (some ⟨g, i * 2, none⟩) (n + 1 - i) dc, .slice (some ⟨vb, 0, none⟩) 1 1]).run Tryd.prog W = .ok (goInt (1 : Nat)) (W.setRow g cur2) := fun W hW hV ty dc => by
      rw [hcur2]
      exact qAs W _ _ ty _ g (i * 2) (n + 1 - i) dc ⟨vb, 0, none⟩ 1 1 cur1 _ ys 2 1 Tryd.underlying55 hsi hW (by simp only [Nat.min_def]; split <;> omega) (by omega)
        (fun j u hj => by rw [qA2, qAz hV j]; simpa using hj) (by rw [hys, hc1s]; omega) h1y
    have h9 : i * 2 + (n - i) * 2 = n * 2 := by omega
    have htk2 : cur2.toList.take ((n + 1) * 2) = xs.take (i * 2) ++ (ys ++ xs.drop (i * 2)) := by
      rw [hcur2, hcur1]
      exact qDd cur.toList xs ys (i * 2) 2 ((n - i) * 2) _ _ (by omega) (by omega) (by rw [h9]; exact htk) (by rw [h9]; exact hl) hys (by rw [Array.length_toList, hcs]; omega) _ (by omega)
    have HG := Aside0.mk hg
    have HV := Aside0.mk hv
    have HOV := Aside0.mk hov
    have HT := Aside0.mk htk
    have hov1 := fun lb cb => HOV.out lb cb w hv hg
    clear hg hv htk hov hdl
    go_enter Tryd.func59, Tryd.ntmps59
    have HC1 := Aside0.mk hcp1
    have HC2 := Aside0.mk hcp2
    have HT2 := Aside0.mk htk2
    clear hcp1 hcp2 htk2 hcur1 hcur2
    go_wp2_with (simp only [hov1])
    have hcd := HC1.out w.drew HG.out
    have HW1 := Aside0.mk (setRow_heap w.drew g cur cur1 _ _ HG.out)
    have HV1 := Aside0.mk ((setRow_other w.drew g vb cur1 hng).trans HV.out)
    have hce := HC2.out (w.drew.setRow g cur1) HW1.out HV1.out
    go_region_law_o (fail)
    go_wp2
    go_ret
    exact ⟨_, rfl, ⟨by simp only [List.length_append, List.length_take, List.length_drop, hl, hys]; omega, .inr ⟨g, cap, cur2, rfl, hgb, setRow_heap _ _ _ _ _ _ HW1.out, hroom, by unfold maxLen; omega, hc2s, HT2.out⟩⟩, qCi (qCi (qA3 (qAg (Below.refl _ _)) _) (qA6 _ _ _)) (qA6 _ _ _), .inl rfl⟩
  · have hw1 : IntKind.i64.wrap ((i : Int) + 1) = (i : Int) + 1 := by rw [IntKind.wrap_i64]; omega
    have hz3 : (cap : Int) < (n : Int) + 1 := by omega
    have hkk : (n : Int) + 1 - (i : Int) = ((n + 1 - i : Nat) : Int) := by omega
    have hik : i + (n + 1 - i) = n + 1 := by omega
    have h6 : (n - i) * 2 + i * 2 = n * 2 := by rw [← Nat.add_mul]; congr 1; omega
    have hxt : (xs.take (i * 2)).length = i * 2 := by rw [List.length_take, hl]; omega
    have hcx : ∀ j u, xs[j]? = some u → w.cell? ((⟨g, 0, none⟩ : Addr).add j) = some u := fun j u hj => by
      rw [qA2]; exact qA5 hg htk j u hj
    have hap0 := fun ty => Lib.run_append_grow_zeros (P := Tryd.prog) w 55 3 ty 68 i0 _ .i64 .i64 Tryd.underlying55 Tryd.underlying3 hi0 hz0 (some ⟨g, 0, none⟩) i cap (xs.take (i * 2))
      (by rw [hzs]; exact run_firstCells_some _ 2 i ⟨g, 0, none⟩ i cap _ hxt (fun j u hj => by
        rw [List.getElem?_take] at hj
        split at hj
        · exact hcx j u hj
        · cases hj)) (n + 1 - i) (by omega) (by rw [hzs]; omega) (by omega) (by omega) (by rw [hzb]; omega) (by rw [hzb, hik]; exact growslice_fits (by omega) hbig)
    rw [hik] at hap0
    have hge := grownCap_ge w (n + 1) cap 68
    have hle := grownCap_le_maxLen w (n + 1) cap 68 (by unfold maxLen; omega)
    generalize grownCap w (n + 1) cap 68 = G at *
    unfold maxLen at hle
    obtain ⟨ROW, hROW⟩ : ∃ R : Array Value, R = (xs.take (i * 2)).toArray ++ Builtin.zeroCells (.agg #[.string ⟨#[]⟩, .string ⟨#[]⟩] : Value).cells (n + 1 - i) ++ Builtin.zeroCells (.agg #[.string ⟨#[]⟩, .string ⟨#[]⟩] : Value).cells (G - (n + 1)) := ⟨_, rfl⟩
    rw [← hROW] at hap0
    have hzc : (.agg #[.string ⟨#[]⟩, .string ⟨#[]⟩] : Value).cells.size = 2 := rfl
    have hRs : ROW.size = G * 2 := by
      rw [hROW]
      simp only [Array.size_append, qBb, hzc, List.size_toArray, hxt]
      rw [← Nat.add_mul, ← Nat.add_mul]
      congr 1
      omega
    have hRt : ROW.toList.take (i * 2) = xs.take (i * 2) := by
      rw [hROW, Array.toList_append, Array.toList_append, List.append_assoc, List.take_append_of_le_length (by simp only [hxt]; omega)]
      exact List.take_of_length_le (by simp only [hxt]; omega)
    have h7 : (i + 1) * 2 + (n - i) * 2 ≤ G * 2 := by rw [← Nat.add_mul]; exact Nat.mul_le_mul_right _ (by omega)
    have h8 : i * 2 + 2 = (i + 1) * 2 := by omega
    obtain ⟨cur1, hcur1⟩ : ∃ c : Array Value, c = (ROW.toList.take (i * 2) ++ ys ++ ROW.toList.drop (i * 2 + ys.length)).toArray := ⟨_, rfl⟩
    obtain ⟨cur2, hcur2⟩ : ∃ c : Array Value, c = (cur1.toList.take ((i + 1) * 2) ++ xs.drop (i * 2) ++ cur1.toList.drop ((i + 1) * 2 + (xs.drop (i * 2)).length)).toArray := ⟨_, rfl⟩
    have hc1s : cur1.size = G * 2 := by
      rw [hcur1]; simp only [List.size_toArray, List.length_append, List.length_take, List.length_drop, Array.length_toList, hRs, hys]; omega
    have hc2s : cur2.size = G * 2 := by
      rw [hcur2]; simp only [List.size_toArray, List.length_append, List.length_take, List.length_drop, Array.length_toList, hc1s, hl]; omega
    have hcp1 : ∀ W : World, W.heap[w.heap.size]? = some (.cells ROW 68 (0, 0)) → W.heap[vb]? = some (.cells ys.toArray tv (0, 0)) → ∀ ty dc, (Builtin.copy_ #[55, 55] ty #[.slice (some ⟨w.heap.size, i * 2, none⟩) (n + 1 - i) dc, .slice (some ⟨vb, 0, none⟩) 1 1]).run Tryd.prog W = .ok (goInt (1 : Nat)) (W.setRow w.heap.size cur1) := fun W hW hV ty dc => by
      rw [hcur1]
      exact qAs W _ _ ty _ w.heap.size (i * 2) (n + 1 - i) dc ⟨vb, 0, none⟩ 1 1 ROW _ ys 2 1 Tryd.underlying55 hsi hW (by simp only [Nat.min_def]; split <;> omega) (by omega)
        (fun j u hj => by rw [qA2, qAz hV j]; simpa using hj) (by rw [hys, hRs]; omega) h1y
    have hcp2 : ∀ W : World, W.heap[w.heap.size]? = some (.cells cur1 68 (0, 0)) → W.heap[g]? = some (.cells cur 68 (0, 0)) → ∀ ty dc sc, (Builtin.copy_ #[55, 55] ty #[.slice (some ⟨w.heap.size, (i + 1) * 2, none⟩) (n - i) dc, .slice (some ⟨g, i * 2, none⟩) (n - i) sc]).run Tryd.prog W = .ok (goInt (n - i : Nat)) (W.setRow w.heap.size cur2) := fun W hW hG ty dc sc => by
      rw [hcur2]
      exact qAs W _ _ ty _ w.heap.size ((i + 1) * 2) (n - i) dc ⟨g, i * 2, none⟩ (n - i) sc cur1 _ (xs.drop (i * 2)) 2 (n - i) Tryd.underlying55 hsi hW (by simp only [Nat.min_def]; split <;> omega) hdl
        (fun j u hj => by
          rw [Addr.add_lit]
          exact qA5 hG htk _ u (by rw [List.getElem?_drop] at hj; exact (congrArg (fun k => xs[k]?) (by omega)).trans hj)) (by rw [hdl, hc1s]; omega) (fun u hu => h1x u (List.mem_of_mem_drop hu))
    have htk2 : cur2.toList.take ((n + 1) * 2) = xs.take (i * 2) ++ (ys ++ xs.drop (i * 2)) := by
      have e1 : cur1.toList.take ((i + 1) * 2) = xs.take (i * 2) ++ ys := by
        rw [hcur1]
        have : (ROW.toList.take (i * 2) ++ ys).length = (i + 1) * 2 := by
          rw [List.length_append, List.length_take, Array.length_toList, hRs, hys]; omega
        rw [List.take_append_of_le_length (by omega), List.take_of_length_le (by omega)]
        rw [show ROW.toList.take (i * 2) = xs.take (i * 2) from (congrArg (fun k => ROW.toList.take k) (by omega)).trans hRt]
      rw [hcur2, e1]
      have e4 : (xs.take (i * 2) ++ ys ++ xs.drop (i * 2)).length = (n + 1) * 2 := by
        rw [List.length_append, List.length_append, hxt, hys, hdl]; omega
      rw [List.take_append_of_le_length (by omega), List.take_of_length_le (by omega), List.append_assoc]
    have hap1 : ∀ ty, (Builtin.append_ #[55, 3] ty #[.slice (some ⟨g, 0, none⟩) i cap, .int .i64 ((n : Int) + 1 - (i : Int))]).run Tryd.prog w = .ok (.slice (some ⟨w.heap.size, 0, none⟩) (n + 1) G) (w.drew.alloc (.cells ROW 68)) := fun ty => by
      rw [hkk]; exact hap0 ty
    have HAP := Aside0.mk hap1
    have HC1 := Aside0.mk hcp1
    have HC2 := Aside0.mk hcp2
    have HT2 := Aside0.mk htk2
    have HG := Aside0.mk hg
    have HV := Aside0.mk hv
    have hgl := blk_lt hg
    have hvl := blk_lt hv
    have HN0 := Aside0.mk (qBf w.drew (.cells ROW 68))
    have HG0 := Aside0.mk (blk_alloc' (w := w.drew) hg (.cells ROW 68))
    have HV0 := Aside0.mk (blk_alloc' (w := w.drew) hv (.cells ROW 68))
    have HB0 := Aside0.mk (qAc (qAg (Below.refl w.heap.size w)) (.cells ROW 68))
    have hGi : ¬ (G = i) := by omega
    have hGim : ¬ (G = i + 1) := by omega
    have hcdA := HC1.out ((w.alloc (.cells ROW 68)).drew) HN0.out HV0.out
    have HW1 := Aside0.mk (setRow_heap ((w.alloc (.cells ROW 68)).drew) w.heap.size ROW cur1 _ _ HN0.out)
    have HG1 := Aside0.mk ((setRow_other ((w.alloc (.cells ROW 68)).drew) w.heap.size g cur1 (by omega)).trans HG0.out)
    have hcdB := HC2.out ((((w.alloc (.cells ROW 68)).drew).setRow w.heap.size cur1).drew) HW1.out HG1.out
    have HW2 := Aside0.mk (setRow_heap ((((w.alloc (.cells ROW 68)).drew).setRow w.heap.size cur1).drew) w.heap.size cur1 cur2 _ _ HW1.out)
    have HBF := Aside0.mk (below_setRow (qAg (below_setRow (qAg (qAc (Below.refl w.heap.size w) (.cells ROW 68))) (Nat.le_refl _) cur1)) (Nat.le_refl _) cur2)
    clear hap0 hap1 hcp1 hcp2 htk2 hg hv htk hcx hcur1 hcur2 hROW hRt hRs hdl hxt hkk hik
    go_enter Tryd.func59, Tryd.ntmps59
    go_wp2_with (at_builtin; refine qAk rfl _ _ 55 3 rfl _ _ _ _ rfl rfl (HAP.out _) ?_)
    go_region_law_o (fail)
    go_wp2
    go_ret
    exact ⟨_, rfl, ⟨by simp only [List.length_append, List.length_take, List.length_drop, hl, hys]; omega, .inr ⟨w.heap.size, G, cur2, rfl, hbase, HW2.out, hge, by unfold maxLen; omega, hc2s, HT2.out⟩⟩, qA3 HBF.out _, .inr ⟨_, rfl, Nat.le_refl _⟩⟩
theorem qDg (v : Value) (n i base vb tv : Nat) (xs ys : List Value) (w : World) (ho : w.ownsRow base 68 2 v n xs) (hi : i ≤ n) (hv : w.heap[vb]? = some (.cells ys.toArray tv (0, 0))) (hys : ys.length = 2) (hne : some vb ≠ v.ownBlock) (hbase : base ≤ w.heap.size) (hbig : (n + 1) * 32 ≤ 140737488355328) (h1x : ∀ u ∈ xs, u.oneCell' = true) (h1y : ∀ u ∈ ys, u.oneCell' = true) :
    Calls Tryd.prog 59 #[v, .int .i64 i, .slice (some ⟨vb, 0, none⟩) 1 1] w fun e w' => ∃ v', e = .returned v' ∧ w'.ownsRow base 68 2 v' (n + 1) (xs.take (i * 2) ++ (ys ++ xs.drop (i * 2))) ∧ w.grownBy w' v.ownBlock ∧ (v'.ownBlock = v.ownBlock ∨ ∃ b, v'.ownBlock = some b ∧ w.heap.size ≤ b) := by
  by_cases c : i < n
  · exact qDe v n i base vb tv xs ys w ho c hv hys hne hbase hbig h1x h1y
  · have e : i = n := by omega
    subst e
    rw [List.take_of_length_le (by rw [ho.1]; omega), List.drop_of_length_le (by rw [ho.1]; omega), List.append_nil]
    exact qDf v i base vb tv xs ys w ho hv hys hbase hbig h1y
end Go.Proofs.YtbnoihpooeombaaDoor.X

namespace Go.Proofs.YtbnoihpooeombaaDoor.P
open Go.Proofs.YtbnoihpooeombaaDoor.X
open Go.RowKit Go.Proofs.YtbnoihpooeombaaDoorW.PrintWords Go.Proofs.YtbnoihpooeombaaDoorW.PrintLast Go.Proofs.YtbnoihpooeombaaDoorW.PrintMore
set_option linter.unusedVariables false
set_option linter.unusedSimpArgs false
def sum_Next.f (a0 : Int) (a1 : Int) : Option (Int) := some (IntKind.u64.wrap ((Go.bits .xor .u64 a0 (IntKind.u64.wrap (a1))) * 1099511628211))
set_option maxHeartbeats 8000000 in
set_option maxRecDepth 100000 in
theorem sum_Next.calls (a0 : Int) (a1 : Int) (r : Int) (w : World) (h : sum_Next.f a0 a1 = some r) :
  Calls Tryd.prog 91 #[.int .u64 a0, .int .u8 a1] w fun e w' => e = .returned (.int .u64 r) ∧ Drawn0 w w' := by
 have H : (some (IntKind.u64.wrap ((Go.bits .xor .u64 a0 (IntKind.u64.wrap (a1))) * 1099511628211))) = some r := h
 clear h
 obtain rfl := Option.some.inj H
 go_enter Tryd.func91, Tryd.ntmps91
 go_wp2
 go_ret
 exact ⟨by first | rfl | (simp; done) | (simp [*]; done), by repeat (first | exact Drawn0.refl _ | apply Drawn0.step)⟩
end Go.Proofs.YtbnoihpooeombaaDoor.P

namespace Go.Proofs.YtbnoihpooeombaaDoor.P
open Go.Proofs.YtbnoihpooeombaaDoor.X
open Go.RowKit Go.Proofs.YtbnoihpooeombaaDoorW.PrintWords Go.Proofs.YtbnoihpooeombaaDoorW.PrintLast Go.Proofs.YtbnoihpooeombaaDoorW.PrintMore
set_option linter.unusedVariables false
set_option linter.unusedSimpArgs false
mutual
def sum_Of.l0 : Nat → Int → List (List Int) → Int → Int → Option (Int)
 | 0, _, _, _, _ => none
 | k + 1, x3, x8, x9, x10 => if x10 < x9 then (if 0 ≤ x10 then (if x10 < (x8.length : Int) then (sum_Of.l1 k x3 x8 x9 x10 (rd_L7 x8 x10) ((rd_L7 x8 x10).length : Int) 0) else (none)) else (none)) else (some x3)
def sum_Of.l1 : Nat → Int → List (List Int) → Int → Int → List Int → Int → Int → Option (Int)
 | 0, _, _, _, _, _, _, _ => none
 | k + 1, x3, x8, x9, x10, x14, x15, x16 => if x16 < x15 then (if 0 ≤ x16 then (if x16 < (x14.length : Int) then ((sum_Next.f x3 (rd x14 x16)).bind fun t506 => (sum_Of.l1 k t506 x8 x9 x10 x14 x15 (wrap64 (x16 + 1)))) else (none)) else (none)) else (sum_Of.l0 k x3 x8 x9 (wrap64 (x10 + 1)))
end
def sum_Of.f (k : Nat) (l0 : List (List Int)) : Option (Int) := sum_Of.l0 k 14695981039346656037 l0 (l0.length : Int) 0
set_option maxHeartbeats 8000000 in
set_option maxRecDepth 100000 in
theorem sum_Of.calls (k : Nat) (A0 : Option Addr) (c0 : Nat) (l0 : List (List Int)) (r : Int) (w : World) (hr0 : Kd.C (Kd.slice 5 (Kd.int .u8)) w A0 l0.length l0) (hc0 : l0.length ≤ c0) (h : sum_Of.f k l0 = some r) :
  Calls Tryd.prog 63 #[.slice A0 l0.length c0] w fun e w' => e = .returned (.int .u64 r) ∧ Drawn0 w w' := by
 have HR0 := Aside0.mk hr0
 have HC0 := Aside0.mk hc0
 clear hr0 hc0
 have H : (sum_Of.l0 k 14695981039346656037 l0 (l0.length : Int) 0) = some r := h
 clear h
 have H' := Aside0.mk H
 clear H
 go_enter Tryd.func63, Tryd.ntmps63
 go_wp2
 go_loopg [3, 10] k (fun kq v3 v10 w' => ∃ (x3_1 : Int) (x10_1 : Int), v3 = .int .u64 x3_1 ∧ v10 = .int .i64 x10_1 ∧ Aside0 (sum_Of.l0 kq x3_1 l0 (l0.length : Int) x10_1 = some r) ∧ Aside0 (kq ≤ k) ∧ Drawn0 w w')
 case atStart => exact ⟨(14695981039346656037), (0), (by first | rfl | (simp; done) | (simp [*]; done) | exact congrArg Value.bool (nil_ne _) | exact congrArg Value.bool (nil_eq _) | exact congrArg Value.bool (nil_ne' _)), (by first | rfl | (simp; done) | (simp [*]; done) | exact congrArg Value.bool (nil_ne _) | exact congrArg Value.bool (nil_eq _) | exact congrArg Value.bool (nil_ne' _)), H', ⟨Nat.le_refl _⟩, by repeat (first | exact Drawn0.refl _ | apply Drawn0.step)⟩
 case round =>
  clear H'
  obtain ⟨x3_1, x10_1, rfl, rfl, HA, HK1, ⟨m1, rfl⟩⟩ := hrel
  cases gk with
  | zero => exact absurd HA.out (by simp [sum_Of.l0])
  | succ k1 =>
   have H := HA.out
   clear HA
   simp only [sum_Of.l0] at H
   by_cases c2 : x10_1 < (l0.length : Int)
   ·rw [if_pos c2] at H
    have c2b0 : decide (x10_1 < (l0.length : Int)) = true := decide_eq_true c2
    clear c2
    by_cases c3 : 0 ≤ x10_1
    ·rw [if_pos c3] at H
     have c3b0 : decide (0 ≤ x10_1) = true := decide_eq_true c3
     clear c3
     by_cases c4 : x10_1 < (l0.length : Int)
     ·rw [if_pos c4] at H
      have c4b0 : decide (x10_1 < (l0.length : Int)) = true := decide_eq_true c4
      clear c4
      have H' := Aside0.mk H
      clear H
      have p504 : 0 ≤ (x10_1 : Int) := of_decide_eq_true (by first | (with_reducible assumption) | assumption)
      have q504 : x10_1 < (l0.length : Int) := of_decide_eq_true (by first | (with_reducible assumption) | assumption)
      obtain ⟨ad504, A504_0, c504_0, e504, hx504_0, hl504_0, hi504_0⟩ := at_L7 HR0.out x10_1 p504 q504
      cases e504
      have HR504_0 := Aside0.mk hi504_0
      have HC504_0 := Aside0.mk hl504_0
      clear hi504_0 hl504_0
      replace p504 := eq_true p504
      replace q504 := eq_true q504
      go_wp2
      go_loopg [3, 16] k1 (fun kq v3 v16 w' => ∃ (x3_2 : Int) (x16_2 : Int), v3 = .int .u64 x3_2 ∧ v16 = .int .i64 x16_2 ∧ Aside0 (sum_Of.l1 kq x3_2 l0 (l0.length : Int) x10_1 (rd_L7 l0 x10_1) ((rd_L7 l0 x10_1).length : Int) x16_2 = some r) ∧ Aside0 (kq ≤ k1) ∧ Drawn0 w w')
      case atStart => exact ⟨(x3_1), (0), (by first | rfl | (simp; done) | (simp [*]; done) | exact congrArg Value.bool (nil_ne _) | exact congrArg Value.bool (nil_eq _) | exact congrArg Value.bool (nil_ne' _)), (by first | rfl | (simp; done) | (simp [*]; done) | exact congrArg Value.bool (nil_ne _) | exact congrArg Value.bool (nil_eq _) | exact congrArg Value.bool (nil_ne' _)), H', ⟨Nat.le_refl _⟩, by repeat (first | exact Drawn0.refl _ | apply Drawn0.step)⟩
      case round =>
       clear H'
       try clear c2
       try clear c2b0
       try clear p2
       try clear c3
       try clear c3b0
       try clear c4
       try clear c4b0
       try clear hx504_0
       try clear p504
       try clear q504
       obtain ⟨x3_2, x16_2, rfl, rfl, HA, HK2, ⟨m2, rfl⟩⟩ := hrel
       cases gk with
       | zero => exact absurd HA.out (by simp [sum_Of.l1])
       | succ k2 =>
        have H := HA.out
        clear HA
        simp only [sum_Of.l1] at H
        by_cases c5 : x16_2 < ((rd_L7 l0 x10_1).length : Int)
        ·rw [if_pos c5] at H
         have c5b0 : decide (x16_2 < ((rd_L7 l0 x10_1).length : Int)) = true := decide_eq_true c5
         clear c5
         by_cases c6 : 0 ≤ x16_2
         ·rw [if_pos c6] at H
          have c6b0 : decide (0 ≤ x16_2) = true := decide_eq_true c6
          clear c6
          by_cases c7 : x16_2 < ((rd_L7 l0 x10_1).length : Int)
          ·rw [if_pos c7] at H
           have c7b0 : decide (x16_2 < ((rd_L7 l0 x10_1).length : Int)) = true := decide_eq_true c7
           clear c7
           replace H := Option.bind_eq_some_iff.mp H
           obtain ⟨t506, A80, H⟩ := H
           replace H : (sum_Of.l1 k2 t506 l0 (l0.length : Int) x10_1 (rd_L7 l0 x10_1) ((rd_L7 l0 x10_1).length : Int) (wrap64 (x16_2 + 1))) = some r := H
           have A8 := Aside0.mk A80
           clear A80
           have H' := Aside0.mk H
           clear H
           have p505 : 0 ≤ (x16_2 : Int) := of_decide_eq_true (by first | (with_reducible assumption) | assumption)
           have q505 : x16_2 < ((rd_L7 l0 x10_1).length : Int) := of_decide_eq_true (by first | (with_reducible assumption) | assumption)
           obtain ⟨ad505, e505, hx505_0⟩ := Kd.at_int HR504_0.out x16_2 p505 q505
           cases e505
           replace p505 := eq_true p505
           replace q505 := eq_true q505
           go_wp2_with (first | ((with_reducible refine qBd (f := 91) rfl ?_); refine goesL_ (some 22) rfl rfl Tryd.func91 (by kernel_rfl) rfl #[.int .u64 x3_2, .int .u8 (rd (rd_L7 l0 x10_1) x16_2)] rfl (by (try simp only [List.map_toArray, List.map_cons, List.map_nil]); first | done | rfl | (simp only [List.length_drop, List.length_take]; rfl)) ?_; (with_reducible refine (sum_Next.calls x3_2 (rd (rd_L7 l0 x10_1) x16_2) t506 _ A8.out).mono ?_); rintro e w' ⟨rfl, ⟨nd, rfl⟩⟩; refine ⟨_, rfl, ?_⟩))
           go_roundg k2
           case measure => have := HK1.out; have := HK2.out; omega
           case rel => exact ⟨(t506), (wrap64 (x16_2 + 1)), (by first | rfl | (simp; done) | (simp [*]; done) | exact congrArg Value.bool (nil_ne _) | exact congrArg Value.bool (nil_eq _) | exact congrArg Value.bool (nil_ne' _)), (by first | rfl | (simp; done) | (simp [*]; done) | exact congrArg Value.bool (nil_ne _) | exact congrArg Value.bool (nil_eq _) | exact congrArg Value.bool (nil_ne' _)), H', ⟨by have := HK1.out; have := HK2.out; omega⟩, by repeat (first | exact Drawn0.refl _ | apply Drawn0.step)⟩
          ·rw [if_neg c7] at H
           exact absurd H (by simp)
         ·rw [if_neg c6] at H
          exact absurd H (by simp)
        ·rw [if_neg c5] at H
         have c5b0 : decide (x16_2 < ((rd_L7 l0 x10_1).length : Int)) = false := decide_eq_false c5
         clear c5
         have H' := Aside0.mk H
         clear H
         go_wp2
         go_roundg k2
         case measure => have := HK1.out; have := HK2.out; omega
         case rel => exact ⟨(x3_2), (wrap64 (x10_1 + 1)), (by first | rfl | (simp; done) | (simp [*]; done) | exact congrArg Value.bool (nil_ne _) | exact congrArg Value.bool (nil_eq _) | exact congrArg Value.bool (nil_ne' _)), (by first | rfl | (simp; done) | (simp [*]; done) | exact congrArg Value.bool (nil_ne _) | exact congrArg Value.bool (nil_eq _) | exact congrArg Value.bool (nil_ne' _)), H', ⟨by have := HK1.out; have := HK2.out; omega⟩, by repeat (first | exact Drawn0.refl _ | apply Drawn0.step)⟩
     ·rw [if_neg c4] at H
      exact absurd H (by simp)
    ·rw [if_neg c3] at H
     exact absurd H (by simp)
   ·rw [if_neg c2] at H
    have c2b0 : decide (x10_1 < (l0.length : Int)) = false := decide_eq_false c2
    clear c2
    obtain rfl := Option.some.inj H
    go_wp2
    go_ret
    exact ⟨by first | rfl | (simp; done) | (simp [*]; done), by repeat (first | exact Drawn0.refl _ | apply Drawn0.step)⟩
end Go.Proofs.YtbnoihpooeombaaDoor.P

namespace Go.Proofs.YtbnoihpooeombaaDoor.P
open Go.Proofs.YtbnoihpooeombaaDoor.X
open Go.RowKit Go.Proofs.YtbnoihpooeombaaDoorW.PrintWords Go.Proofs.YtbnoihpooeombaaDoorW.PrintLast Go.Proofs.YtbnoihpooeombaaDoorW.PrintMore
set_option linter.unusedVariables false
set_option linter.unusedSimpArgs false
def sum_Hex.f (a0 : Int) : Option (ByteArray) := (strconv_FormatUint.f a0 16).bind fun t502 => ((strings_Repeat.f (⟨#[48]⟩ : ByteArray) (wrap64 (16 - (t502.size : Int)))).bind fun t503 => (if t503.size + t502.size ≤ 9223372036854775807 then (some (t503 ++ t502)) else (none)))
set_option maxHeartbeats 8000000 in
set_option maxRecDepth 100000 in
theorem sum_Hex.calls (a0 : Int) (r : ByteArray) (w : World) (hT : Aside0 (Tabs w)) (h : sum_Hex.f a0 = some r) :
  Calls Tryd.prog 62 #[.int .u64 a0] w fun e w' => e = .returned (.string r) ∧ Below w.heap.size w w' := by
 have HB := Aside0.mk (Below.refl w.heap.size w)
 have H : ((strconv_FormatUint.f a0 16).bind fun t502 => ((strings_Repeat.f (⟨#[48]⟩ : ByteArray) (wrap64 (16 - (t502.size : Int)))).bind fun t503 => (if t503.size + t502.size ≤ 9223372036854775807 then (some (t503 ++ t502)) else (none)))) = some r := h
 clear h
 replace H := Option.bind_eq_some_iff.mp H
 obtain ⟨t502, A20, H⟩ := H
 replace H : ((strings_Repeat.f (⟨#[48]⟩ : ByteArray) (wrap64 (16 - (t502.size : Int)))).bind fun t503 => (if t503.size + t502.size ≤ 9223372036854775807 then (some (t503 ++ t502)) else (none))) = some r := H
 have A2 := Aside0.mk A20
 clear A20
 replace H := Option.bind_eq_some_iff.mp H
 obtain ⟨t503, A30, H⟩ := H
 replace H : (if t503.size + t502.size ≤ 9223372036854775807 then (some (t503 ++ t502)) else (none)) = some r := H
 have A3 := Aside0.mk A30
 clear A30
 by_cases c4 : t503.size + t502.size ≤ 9223372036854775807
 ·rw [if_pos c4] at H
  have c4b0 := eq_true c4
  have c4b1 : decide (t503.size + t502.size ≤ 9223372036854775807) = true := decide_eq_true c4
  try have c4b2 : (9223372036854775807 < t503.size + t502.size) = False := eq_false (Nat.not_lt.2 c4)
  have Sc4 := Aside0.mk c4
  clear c4
  obtain rfl := Option.some.inj H
  go_enter Tryd.func62, Tryd.ntmps62
  go_wp2_with (first | ((with_reducible refine qBd (f := 89) rfl ?_); refine goesL_ (some 5) rfl rfl Tryd.func89 (by kernel_rfl) rfl #[.int .u64 a0, .int .i64 16] rfl (by (try simp only [List.map_toArray, List.map_cons, List.map_nil]); first | done | rfl | (simp only [List.length_drop, List.length_take]; rfl)) ?_; (with_reducible refine (strconv_FormatUint.calls a0 16 t502 _ ?side1 A2.out).mono ?_); (case side1 => exact ⟨Tabs.below hT.out (by repeat (first | (with_reducible first | exact HB.out | apply qAc | apply qAh | apply qAg) | exact HB.out))⟩); rintro e w5 ⟨rfl, hb⟩; refine ⟨_, rfl, ?_⟩; have n0_ := Aside0.mk (qAa (by repeat (first | (with_reducible first | exact HB.out | apply qAc | apply qAh | apply qAg) | exact HB.out)) hb); clear HB; have HB := n0_; clear n0_; (try clear hb); (try clear hb2); (try clear hk); (try clear hi)) | ((with_reducible refine qBd (f := 90) rfl ?_); refine goesL_ (some 9) rfl rfl Tryd.func90 (by kernel_rfl) rfl #[.string (⟨#[48]⟩ : ByteArray), .int .i64 (wrap64 (16 - (t502.size : Int)))] rfl (by (try simp only [List.map_toArray, List.map_cons, List.map_nil]); first | done | rfl | (simp only [List.length_drop, List.length_take]; rfl)) ?_; (with_reducible refine (strings_Repeat.calls (⟨#[48]⟩ : ByteArray) (wrap64 (16 - (t502.size : Int))) t503 _ A3.out).mono ?_); rintro e w6 ⟨rfl, hb⟩; refine ⟨_, rfl, ?_⟩; have n0_ := Aside0.mk (qAa (by repeat (first | (with_reducible first | exact HB.out | apply qAc | apply qAh | apply qAg) | exact HB.out)) hb); clear HB; have HB := n0_; clear n0_; (try clear hb); (try clear hb2); (try clear hk); (try clear hi)))
  try any_goals (exfalso; have h_ := Sc4.out; rename_i hb_; (try simp only [ByteArray.size_extract, ByteArray.size_append] at h_ hb_); (try simp only [ByteArray.size, List.size_toArray, List.length_cons, List.length_nil] at h_ hb_); omega)
  go_ret
  exact ⟨by first | rfl | (simp [qC4, qC3] <;> rfl) | (simp [*, qC4, qC3] <;> rfl), by repeat (first | (with_reducible first | exact HB.out | apply qAc | apply qAh | apply qAg) | exact HB.out)⟩
 ·rw [if_neg c4] at H
  exact absurd H (by simp)
end Go.Proofs.YtbnoihpooeombaaDoor.P

namespace Go.Proofs.YtbnoihpooeombaaDoor.X
open Go.RowKit Go.Proofs.YtbnoihpooeombaaDoorW.PrintWords Go.Proofs.YtbnoihpooeombaaDoor.P
set_option linter.unusedVariables false
set_option linter.unusedSimpArgs false
theorem qEx (w : World) (e : TypeId) (s : ByteArray) (hs : s.size ≤ 9223372036854775807) : (Kd.int .u8).C (Lib.bytesWorld w e s) (some ⟨w.heap.size, 0, none⟩) s.size (qAr s) := by
  refine Kd.C_of_reads (d := (0 : Int)) (h1 := fun _ => rfl) ⟨qA0 s, hs, fun _ => ⟨_, rfl, fun j hj => ?_⟩⟩
  have ha : (⟨w.heap.size, 0, none⟩ : Addr).add j = ⟨w.heap.size, j, none⟩ := qA2 _ _
  rw [ha, Lib.bytesWorld_cell w e s j hj]
  congr 2
  unfold qAr
  simp only [List.getD_eq_getElem?_getD, List.getElem?_map]
  have hl : j < s.data.toList.length := by rw [qB5]; exact hj
  rw [List.getElem?_eq_getElem hl]
  rfl
theorem qDj (w : World) (e : TypeId) (s : ByteArray) : Below w.heap.size w (Lib.bytesWorld w e s) :=
  ⟨rfl, rfl, rfl, by rw [Lib.bytesWorld_size]; omega, fun i hi => Lib.bytesWorld_at_old w e s i hi⟩
theorem one_C {W : World} {A : Option Addr} {c e t : Nat} {xs : List Int} (h : (Kd.int .u8).C W A xs.length xs) (hc : xs.length ≤ c) :
    (Kd.slice e (Kd.int .u8)).C (W.alloc (.cells #[.slice A xs.length c] t)) (some ⟨W.heap.size, 0, none⟩) [xs].length [xs] := by
  refine ⟨rfl, by simp, fun _ => ⟨_, rfl, fun j p hj => ?_⟩⟩
  cases j with
  | succ j => simp at hj
  | zero =>
    obtain rfl : xs = p := by simpa using hj
    refine ⟨[.slice A xs.length c], rfl, ⟨A, c, rfl, hc, Kd.C_below h ((Below.refl _ _).alloc (Nat.le_refl _) _)⟩, fun i u hu => ?_⟩
    cases i with
    | succ i => simp at hu
    | zero =>
      obtain rfl : Value.slice A xs.length c = u := by simpa using hu
      simp [Addr.add, World.cell?, World.alloc, -World.alloc_eq]
def sum_Digest.f (k : Nat) (a0 : ByteArray) : Option ByteArray := if a0.size ≤ 9223372036854775807 then (sum_Of.f k [qAr a0]).bind fun t => sum_Hex.f t else none
set_option maxHeartbeats 1600000 in
set_option maxRecDepth 100000 in
theorem sum_Digest.calls (k : Nat) (a0 : ByteArray) (r : ByteArray) (w : World) (hT : Aside0 (Tabs w)) (h : sum_Digest.f k a0 = some r) :
    Calls Tryd.prog 43 #[.string a0] w fun e w' => e = .returned (.string r) ∧ Below w.heap.size w w' := by
  unfold sum_Digest.f at h
  split at h
  · rename_i hs
    replace h := Option.bind_eq_some_iff.mp h
    obtain ⟨t, h1, h2⟩ := h
    have H1 := Aside0.mk h1
    have H2 := Aside0.mk h2
    have HS := Aside0.mk hs
    clear h1 h2 hs
    have hcv := Lib.run_convert_string_bytes (P := Tryd.prog) w 9 78 5 a0 Tryd.underlying9 Tryd.underlying78 Tryd.underlying5
    have HB := Aside0.mk (qDj w 5 a0)
    have HC := Aside0.mk (qEx w 5 a0 HS.out)
    have HG := Aside0.mk (grownCap_ge w a0.size 0 5)
    go_enter Tryd.func43, Tryd.ntmps43
    go_wp2_with fail
    generalize Lib.bytesWorld w 5 a0 = W1 at *
    clear hcv
    have hl := qA0 a0
    generalize grownCap w a0.size 0 5 = cp at *
    rw [← hl] at HC HG ⊢
    have HL := Aside0.mk hl
    clear hl
    have HC2 := Aside0.mk (one_C (e := 5) (t := 78) HC.out HG.out)
    refine (sum_Of.calls k _ 1 [qAr a0] t _ HC2.out (Nat.le_refl _) H1.out).mono ?_
    rintro e w2 ⟨rfl, ⟨n2, rfl⟩⟩
    have HB2 := Aside0.mk (qAh (qAc HB.out (.cells #[.slice (some ⟨w.heap.size, 0, none⟩) (qAr a0).length cp] 78)) n2)
    go_wp2_with fail
    refine (sum_Hex.calls t r _ ⟨Tabs.below hT.out HB2.out⟩ H2.out).mono ?_
    rintro e w3 ⟨rfl, hb3⟩
    have HB3 := Aside0.mk (qAa HB2.out hb3)
    clear hb3
    go_wp2
    go_ret
    exact ⟨rfl, HB3.out⟩
  · cases h
end Go.Proofs.YtbnoihpooeombaaDoor.X

namespace Go.Proofs.YtbnoihpooeombaaDoor.X
open Go.RowKit Go.Proofs.YtbnoihpooeombaaDoorW.PrintWords Go.Proofs.YtbnoihpooeombaaDoorW.PrintLast Go.Proofs.YtbnoihpooeombaaDoorW.PrintMore Go.Proofs.YtbnoihpooeombaaDoor.P
set_option linter.unusedVariables false
set_option linter.unusedSimpArgs false
def cellsB : List S68 → List Value
  | [] => []
  | x :: l => .string x.f0 :: .string x.f1 :: cellsB l
theorem qCk : ∀ l, (cellsB l).length = l.length * 2
  | [] => rfl
  | x :: l => by rw [cellsB, List.length_cons, List.length_cons, qCk l, List.length_cons]; omega
theorem qCl : ∀ l m, cellsB (l ++ m) = cellsB l ++ cellsB m
  | [], m => rfl
  | x :: l, m => by rw [List.cons_append, cellsB, cellsB, qCl l m]; rfl
theorem qB6 : ∀ (l : List S68) (i : Nat), (cellsB l).take (i * 2) = cellsB (l.take i)
  | [], i => by simp [cellsB]
  | x :: l, 0 => by simp [cellsB]
  | x :: l, i + 1 => by rw [show (i + 1) * 2 = i * 2 + 1 + 1 by omega, cellsB, List.take_succ_cons, List.take_succ_cons, List.take_succ_cons, cellsB, qB6 l i]
theorem qB7 : ∀ (l : List S68) (i : Nat), (cellsB l).drop (i * 2) = cellsB (l.drop i)
  | [], i => by simp [cellsB]
  | x :: l, 0 => by simp [cellsB]
  | x :: l, i + 1 => by rw [show (i + 1) * 2 = i * 2 + 1 + 1 by omega, cellsB, List.drop_succ_cons, List.drop_succ_cons, List.drop_succ_cons, qB7 l i]
theorem qBl : ∀ (l : List S68), ∀ u ∈ cellsB l, u.oneCell' = true
  | [], u, h => by cases h
  | x :: l, u, h => by
    rw [cellsB, List.mem_cons, List.mem_cons] at h
    rcases h with rfl | rfl | h
    · rfl
    · rfl
    · exact qBl l u h
theorem qAl (w : World) : ∀ l, Reps (k68.K w) 2 l (cellsB l)
  | [] => Reps.none _ _
  | x :: l => by
    have h := qC9 (Reps.snoc (Reps.none (k68.K w) 2) (k68_mk w x) rfl) (qAl w l)
    exact h
structure qAf (w : World) (t base sb : Nat) (v : Value) (L : List S68) : Prop where
  cell : w.heap[sb]? = some (.cells #[v] t (0, 0))
  row : w.ownsRow base 68 2 v L.length (cellsB L)
theorem qAf.reads {w : World} {t base sb : Nat} {v : Value} {L : List S68} (h : qAf w t base sb v L) : ∃ A c, v = .slice A L.length c ∧ L.length ≤ c ∧ k68.C w A L.length L := by
  obtain ⟨A, c, rfl, hC⟩ := qAi h.row (qAl w L) rfl
  exact ⟨A, c, rfl, qBc h.row, hC⟩
theorem qAf.keep {w w1 : World} {t base sb : Nat} {v : Value} {L : List S68} (h : qAf w t base sb v L) (h1 : w1.heap[sb]? = w.heap[sb]?) (h2 : ∀ k, v.ownBlock = some k → w1.heap[k]? = w.heap[k]?) : qAf w1 t base sb v L :=
  ⟨h1.trans h.cell, qCq h.row h2⟩
theorem qAf.below {w w1 : World} {t base sb : Nat} {v : Value} {L : List S68} (h : qAf w t base sb v L) (hb : Below w.heap.size w w1) : qAf w1 t base sb v L :=
  h.keep (hb.block _ (blk_lt h.cell)) (fun k hk => hb.block _ (own_lt h.row k hk))
set_option maxHeartbeats 4000000 in
theorem qCj (base sb : Nat) (v : Value) (L : List S68) (d : ByteArray) (w : World) (h : qAf w 91 base sb v L) (hs : qAe (dgs L) = true) (hn : L.length ≤ 1000000) :
    Calls Tryd.prog 58 #[.pointer (some ⟨sb, 0, none⟩), .string d] w fun e w' => e = .returned (.tuple #[.int .i64 (posK (dgs L) d : Nat), .bool (isK (dgs L) d)]) ∧ Below w.heap.size w w' := by
  obtain ⟨A, c, rfl, hc, hC⟩ := h.reads
  have HC := Aside0.mk hC
  have HS := Aside0.mk hs
  have hc0 := cell_of_one h.cell
  clear hC hs h
  go_enter Tryd.func58, Tryd.ntmps58
  go_wp2_with fail
  refine (qCo A c L d w HC.out hc HS.out hn).mono ?_
  rintro e w1 ⟨rfl, hb⟩
  have HB := Aside0.mk hb
  clear hb
  go_wp2_with fail
  go_ret2
  exact ⟨rfl, HB.out⟩
end Go.Proofs.YtbnoihpooeombaaDoor.X

namespace Go.Proofs.YtbnoihpooeombaaDoor.X
open Go.RowKit Go.Proofs.YtbnoihpooeombaaDoorW.PrintWords Go.Proofs.YtbnoihpooeombaaDoorW.PrintLast Go.Proofs.YtbnoihpooeombaaDoorW.PrintMore Go.Proofs.YtbnoihpooeombaaDoor.P
set_option linter.unusedVariables false
set_option linter.unusedSimpArgs false
structure StepB (w w' : World) (sb : Nat) (r : Option Nat) : Prop where
  os : w'.os = w.os
  tape : w'.tape = w.tape
  output : w'.output = w.output
  size : w.heap.size ≤ w'.heap.size
  block : ∀ k, k < w.heap.size → k ≠ sb → some k ≠ r → w'.heap[k]? = w.heap[k]?
theorem StepB.of_below {w w' : World} {sb : Nat} {r : Option Nat} (h : Below w.heap.size w w') : StepB w w' sb r := ⟨h.os, h.tape, h.output, h.size, fun k hk _ _ => h.block k hk⟩
theorem StepB.of_grown {w w' : World} {sb : Nat} {r : Option Nat} (h : w.grownBy w' r) : StepB w w' sb r := ⟨h.os, h.tape, h.output, h.size, fun k hk _ hr => h.block k hk hr⟩
theorem StepB.trans {w w1 w2 : World} {sb : Nat} {r r' : Option Nat} (h : StepB w w1 sb r) (g : StepB w1 w2 sb r') (hr : r' = r ∨ ∀ k, r' = some k → w.heap.size ≤ k) : StepB w w2 sb r :=
  ⟨g.os.trans h.os, g.tape.trans h.tape, g.output.trans h.output, Nat.le_trans h.size g.size, fun k hk hs hne => (g.block k (Nat.lt_of_lt_of_le hk h.size) hs (by
    rcases hr with rfl | hr
    · exact hne
    · intro e
      have := hr k e.symm
      omega)).trans (h.block k hk hs hne)⟩
theorem StepB.set {w w1 : World} {sb : Nat} {r : Option Nat} (h : StepB w w1 sb r) (v : Value) : StepB w (w1.setCell ⟨sb, 0, none⟩ v) sb r :=
  ⟨h.os, h.tape, h.output, by rw [qEg]; exact h.size, fun k hk hs hne => (Below.heap_setCell w1 ⟨sb, 0, none⟩ v k hs).trans (h.block k hk hs hne)⟩
def putL (L : List S68) (d data : ByteArray) : List S68 := if isK (dgs L) d = true then L else L.take (posK (dgs L) d) ++ ⟨d, data⟩ :: L.drop (posK (dgs L) d)
def putR (L : List S68) (d data : ByteArray) : ByteArray × Int := if isK (dgs L) d = true ∧ (rd_T68 L (posK (dgs L) d : Nat)).f1 ≠ data then (⟨#[]⟩, 9) else (d, 0)
set_option maxHeartbeats 8000000 in
set_option maxRecDepth 100000 in
theorem qA1 (kD base sb : Nat) (v : Value) (L : List S68) (data d : ByteArray) (w : World) (hT : Aside0 (Tabs w)) (h : qAf w 91 base sb v L) (hs : qAe (dgs L) = true) (hn : L.length ≤ 100000) (hD : sum_Digest.f kD data = some d) (hbase : base ≤ w.heap.size) :
    Calls Tryd.prog 35 #[.pointer (some ⟨sb, 0, none⟩), .string data] w fun e w' => e = .returned (.tuple #[.string (putR L d data).1, .int .i64 (putR L d data).2]) ∧
      ∃ v', qAf w' 91 base sb v' (putL L d data) ∧ (v'.ownBlock = v.ownBlock ∨ ∃ b, v'.ownBlock = some b ∧ w.heap.size ≤ b) ∧ StepB w w' sb v.ownBlock := by
  have HD := Aside0.mk hD
  have HS := Aside0.mk hs
  have HH := Aside0.mk h
  clear hD hs h
  go_enter Tryd.func35, Tryd.ntmps35
  go_wp2_with fail
  refine (sum_Digest.calls kD data d w hT HD.out).mono ?_
  rintro e w1 ⟨rfl, hb1⟩
  have HB1 := Aside0.mk hb1
  have H1 := Aside0.mk (HH.out.below hb1)
  clear hb1 HD
  go_wp2_with fail
  refine (qCj base sb v L d w1 H1.out HS.out (by omega)).mono ?_
  rintro e w2 ⟨rfl, hb2⟩
  have HB2 := Aside0.mk (qAa HB1.out hb2)
  have H2 := Aside0.mk (H1.out.below hb2)
  clear hb2 H1 HB1
  have hpl : posK (dgs L) d ≤ L.length := by have := qDb (dgs L) d; rw [qAx] at this; exact this
  have HLT := Aside0.mk (fun (h : isK (dgs L) d = true) => (by have := (isK_lt h).1; rw [qAx] at this; exact this : posK (dgs L) d < L.length))
  have HPL : Aside0 (putL L d data = if isK (dgs L) d = true then L else L.take (posK (dgs L) d) ++ ⟨d, data⟩ :: L.drop (posK (dgs L) d)) := ⟨rfl⟩
  have HPR : Aside0 (putR L d data = if isK (dgs L) d = true ∧ (rd_T68 L (posK (dgs L) d : Nat)).f1 ≠ data then (⟨#[]⟩, 9) else (d, 0)) := ⟨rfl⟩
  generalize posK (dgs L) d = p at *
  obtain ⟨A, c, rfl, hc, hC⟩ := H2.out.reads
  have HC := Aside0.mk hC
  have hc0 := cell_of_one H2.out.cell
  clear hC
  cases hi : isK (dgs L) d with
  | true =>
    have hp := HLT.out hi
    have hp0 : 0 ≤ (p : Int) := by omega
    obtain ⟨ad, rfl, z0, z1⟩ := at_T68 HC.out (p : Int) hp0 (by omega)
    simp only [Int.toNat_natCast] at z0 z1
    have hR := HPR.out
    have hL := HPL.out
    rw [hi] at hR hL
    rw [if_pos rfl] at hL
    generalize rd_T68 L (p : Nat) = x at *
    obtain ⟨bq, hbq⟩ : ∃ b, (x.f1.toList == data.toList) = b := ⟨_, rfl⟩
    have hR2 : putR L d data = if bq = true then (d, 0) else (⟨#[]⟩, 9) := by
      rw [hR, ← hbq]
      by_cases e : x.f1 = data
      · rw [if_neg (fun h => h.2 e), if_pos (by rw [e]; simp)]
      · rw [if_pos ⟨rfl, e⟩, if_neg (fun h => e ((qBj _ _).1 (beq_iff_eq.1 h)))]
    have HR2 := Aside0.mk hR2
    have HL2 := Aside0.mk hL
    clear hR hL hR2 HPR HPL HLT hi
    cases bq with
    | true =>
      go_wp2_with fail
      go_ret2
      exact ⟨by rw [HR2.out]; rfl, _, by rw [HL2.out]; exact H2.out, .inl rfl, StepB.of_below HB2.out⟩
    | false =>
      go_wp2_with fail
      go_ret2
      exact ⟨by rw [HR2.out]; rfl, _, by rw [HL2.out]; exact H2.out, .inl rfl, StepB.of_below HB2.out⟩
  | false =>
    have hR := HPR.out
    have hL := HPL.out
    rw [hi] at hR hL
    rw [if_neg (by decide)] at hL
    rw [if_neg (fun h => by cases h.1)] at hR
    have HR2 := Aside0.mk hR
    have HL2 := Aside0.mk hL
    clear hR hL HPR HPL HLT hi
    go_wp2_with fail
    have hlt2 := own_lt H2.out.row
    refine (qDg (.slice A L.length c) L.length p base w2.heap.size 68 (cellsB L) [.string d, .string data] _ (H2.out.below (qAc (Below.refl w2.heap.size w2) _)).row hpl (qBf w2 _) rfl (fun e => by have := hlt2 _ e.symm; omega) (by have := HB2.out.size; have := (qAc (Below.refl w2.heap.size w2) (.cells #[Value.string d, Value.string data] 68)).size; omega) (by omega) (qBl L) (by intro u hu; simp only [List.mem_cons, List.not_mem_nil, or_false] at hu; rcases hu with rfl | rfl <;> rfl)).mono ?_
    rintro e w4 ⟨v', rfl, ho4, hg4, hv4⟩
    obtain ⟨a4, b4, rfl⟩ := qD2 ho4
    have HS4 := Aside0.mk (StepB.trans (sb := sb) (r := (Value.slice A L.length c).ownBlock) (StepB.of_below (qAa HB2.out (qAc (Below.refl w2.heap.size w2) (.cells #[Value.string d, Value.string data] 68)))) (StepB.of_grown hg4) (.inl rfl))
    have hcell4 : w4.heap[sb]? = some (.cells #[.slice A L.length c] 91 (0, 0)) := (hg4.block sb (by have := blk_lt H2.out.cell; have := (qAc (Below.refl w2.heap.size w2) (.cells #[Value.string d, Value.string data] 68)).size; omega) (own_ne H2.out.row H2.out.cell (by decide))).trans (blk_alloc' H2.out.cell _)
    have hc4 := cell_of_one hcell4
    have hf4 := qBm hcell4 0
    have HCE := Aside0.mk (one_setCell (u := .slice a4 (L.length + 1) b4) hcell4)
    have HO4 := Aside0.mk ho4
    have HV4 := Aside0.mk hv4
    have HWS := Aside0.mk (show w.heap.size ≤ (w2.alloc (.cells #[Value.string d, Value.string data] 68)).heap.size from by have := HB2.out.size; have := (qAc (Below.refl w2.heap.size w2) (.cells #[Value.string d, Value.string data] 68)).size; omega)
    have HNE := Aside0.mk (show ∀ k, (Value.slice a4 (L.length + 1) b4).ownBlock = some k → k ≠ sb from fun k hk e => by
      subst e
      exact own_ne ho4 hcell4 (by decide) hk.symm)
    clear hcell4 hg4 ho4 hv4 hc0
    go_wp2_with fail
    go_ret2
    refine ⟨by rw [HR2.out]; rfl, _, ⟨HCE.out, ?_⟩, ?_, HS4.out.set _⟩
    · rw [HL2.out]
      have e1 : (L.take p ++ ⟨d, data⟩ :: L.drop p).length = L.length + 1 := by simp; omega
      have e2 : cellsB (L.take p ++ ⟨d, data⟩ :: L.drop p) = (cellsB L).take (p * 2) ++ ([.string d, .string data] ++ (cellsB L).drop (p * 2)) := by
        rw [qCl, qB6, qB7]; rfl
      rw [e1, e2]
      exact qCq HO4.out (fun k hk => Below.heap_setCell w4 ⟨sb, 0, none⟩ _ k (HNE.out k hk))
    · rcases HV4.out with e | ⟨b, e, hb⟩
      · exact .inl e
      · exact .inr ⟨b, e, Nat.le_trans HWS.out hb⟩
end Go.Proofs.YtbnoihpooeombaaDoor.X

namespace Go.Proofs.YtbnoihpooeombaaDoor.X
open Go.RowKit Go.Proofs.YtbnoihpooeombaaDoorW.PrintWords Go.Proofs.YtbnoihpooeombaaDoorW.PrintLast Go.Proofs.YtbnoihpooeombaaDoorW.PrintMore Go.Proofs.YtbnoihpooeombaaDoor.P
set_option linter.unusedVariables false
set_option linter.unusedSimpArgs false
set_option maxHeartbeats 1600000 in
set_option maxRecDepth 100000 in
theorem qC5 (A : Option Addr) (n c : Nat) (news : List Value) (w : World) (hA : A = none → n = 0) (hl : news.length = n * 2) (hn : n * 32 ≤ 140737488355328) (hc : ∀ ad, A = some ad → ∀ j u, news[j]? = some u → w.cell? (ad.add j) = some u) (h1 : ∀ u ∈ news, u.oneCell' = true) :
    Calls Tryd.prog 61 #[.slice A n c] w fun e w' => ∃ v', e = .returned v' ∧ w'.ownsRow w.heap.size 68 2 v' n news ∧ Below w.heap.size w w' := by
  cases A with
  | none =>
    obtain rfl := hA rfl
    have hx : news = [] := List.length_eq_zero_iff.1 (by omega)
    subst hx
    clear hc
    have heq : ∀ W, (binOp .eql 55 (.slice none 0 c) (.slice none 0 0)).run Tryd.prog W = .ok (.bool true) W := fun W => Lib.run_eql_slice_nil W _ _ _ _ _ _ _ Tryd.underlying55
    go_enter Tryd.func61, Tryd.ntmps61
    go_wp2
    go_ret
    exact ⟨_, rfl, qEq _ _ _ _, Below.refl _ _⟩
  | some ad =>
    have hc := hc ad rfl
    obtain ⟨i0, hi0, hz0, hzs, hzb⟩ := info_parts (show (Tryd.prog.info? 68).map (fun i => (i.zero, i.size, i.bytes)) = some (some (.agg #[.string ⟨#[]⟩, .string ⟨#[]⟩]), 2, 32) by kernel_rfl)
    have heq : ∀ W, (binOp .eql 55 (.slice (some ad) n c) (.slice none 0 0)).run Tryd.prog W = .ok (.bool false) W := fun W => Lib.run_eql_slice_nil W _ _ _ _ _ _ _ Tryd.underlying55
    rcases Nat.eq_zero_or_pos n with rfl | hpos
    · have hx : news = [] := List.length_eq_zero_iff.1 (by omega)
      subst hx
      clear hc
      go_enter Tryd.func61, Tryd.ntmps61
      go_wp2
      go_ret
      refine ⟨_, rfl, ⟨by simp, .inr ⟨w.heap.size, 0, #[], rfl, Nat.le_refl _, qBf w _, Nat.le_refl _, by simp, by simp, by simp⟩⟩, qAc (Below.refl _ _) _⟩
    · have hB := qAc (Below.refl w.heap.size w) (.cells #[] 68)
      have hap := fun ty => run_append_grow_src (P := Tryd.prog) (w := w.alloc (.cells #[] 68)) 55 55 ty 68 i0 _ Tryd.underlying55 hi0 hz0 (some ⟨w.heap.size, 0, none⟩) 0 0 []
        (by rw [hzs]; exact run_firstCells_some _ 2 0 ⟨w.heap.size, 0, none⟩ 0 0 [] (by simp) (fun j u hj => by simp at hj)) (.slice (some ad) n c) n news
        (by rw [hzs]; exact Src.ofSlice _ Tryd.underlying55 ad n c news hl (fun j u hj => qAb hB (hc j u hj)) h1) (by omega) (by omega) (by rw [hzb]; exact growslice_fits (by omega) (by omega))
      have hge := grownCap_ge (w.alloc (.cells #[] 68)) (0 + n) 0 68
      have hle := grownCap_le_maxLen (w.alloc (.cells #[] 68)) (0 + n) 0 68 (by unfold maxLen; omega)
      have hsz : (w.alloc (.cells #[] 68)).heap.size = w.heap.size + 1 := by simp [World.alloc, -World.alloc_eq]
      generalize grownCap (w.alloc (.cells #[] 68)) (0 + n) 0 68 = G at *
      simp only [Nat.zero_add, List.nil_append, hsz] at hap hge
      have HAP := Aside0.mk hap
      have HGE := Aside0.mk hge
      have HLE := Aside0.mk hle
      clear hap hge hle hsz hc
      go_enter Tryd.func61, Tryd.ntmps61
      go_wp2_with (at_builtin; refine qAk rfl _ _ 55 55 rfl _ _ _ _ rfl rfl (HAP.out _) ?_)
      go_ret
      exact ⟨_, rfl, qBy (z := (.agg #[.string ⟨#[]⟩, .string ⟨#[]⟩] : Value).cells) hl rfl HGE.out HLE.out _ (by simp [World.alloc, -World.alloc_eq]) (by omega), qAg (qAc (qAc (Below.refl _ _) _) _)⟩
end Go.Proofs.YtbnoihpooeombaaDoor.X

namespace Go.Proofs.YtbnoihpooeombaaDoor.X
open Go.RowKit Go.Proofs.YtbnoihpooeombaaDoorW.PrintWords Go.Proofs.YtbnoihpooeombaaDoorW.PrintLast Go.Proofs.YtbnoihpooeombaaDoorW.PrintMore Go.Proofs.YtbnoihpooeombaaDoor.P
set_option linter.unusedVariables false
set_option linter.unusedSimpArgs false
def getB (L : List S68) (d : ByteArray) : ByteArray × Bool := if isK (dgs L) d = true then ((rd_T68 L (posK (dgs L) d : Nat)).f1, true) else (⟨#[]⟩, false)
set_option maxHeartbeats 8000000 in
set_option maxRecDepth 100000 in
theorem qC2 (base sb : Nat) (v : Value) (L : List S68) (d : ByteArray) (w : World) (h : qAf w 91 base sb v L) (hs : qAe (dgs L) = true) (hn : L.length ≤ 100000) :
    Calls Tryd.prog 37 #[.pointer (some ⟨sb, 0, none⟩), .string d] w fun e w' => e = .returned (.tuple #[.string (getB L d).1, .bool (getB L d).2]) ∧ Below w.heap.size w w' := by
  have HS := Aside0.mk hs
  have HH := Aside0.mk h
  clear hs h
  go_enter Tryd.func37, Tryd.ntmps37
  go_wp2_with fail
  refine (qCj base sb v L d w HH.out HS.out (by omega)).mono ?_
  rintro e w2 ⟨rfl, hb2⟩
  have HB2 := Aside0.mk hb2
  have H2 := Aside0.mk (HH.out.below hb2)
  clear hb2
  have HLT := Aside0.mk (fun (h : isK (dgs L) d = true) => (by have := (isK_lt h).1; rw [qAx] at this; exact this : posK (dgs L) d < L.length))
  have HG : Aside0 (getB L d = if isK (dgs L) d = true then ((rd_T68 L (posK (dgs L) d : Nat)).f1, true) else (⟨#[]⟩, false)) := ⟨rfl⟩
  generalize posK (dgs L) d = p at *
  obtain ⟨A, c, rfl, hc, hC⟩ := H2.out.reads
  have HC := Aside0.mk hC
  have hc0 := cell_of_one H2.out.cell
  clear hC
  cases hi : isK (dgs L) d with
  | true =>
    have hp := HLT.out hi
    have hp0 : 0 ≤ (p : Int) := by omega
    obtain ⟨ad, rfl, z0, z1⟩ := at_T68 HC.out (p : Int) hp0 (by omega)
    simp only [Int.toNat_natCast] at z0 z1
    have hR := HG.out
    rw [if_pos hi] at hR
    have HR := Aside0.mk hR
    clear hR HG HLT hi
    generalize rd_T68 L (p : Nat) = x at *
    go_wp2_with fail
    go_ret2
    exact ⟨by rw [HR.out]; rfl, HB2.out⟩
  | false =>
    have hR := HG.out
    rw [if_neg (by rw [hi]; decide)] at hR
    have HR := Aside0.mk hR
    clear hR HG HLT hi
    go_wp2_with fail
    go_ret2
    exact ⟨by rw [HR.out]; rfl, HB2.out⟩
set_option maxHeartbeats 4000000 in
theorem qCz (base sb : Nat) (v : Value) (L : List S68) (w : World) (h : qAf w 91 base sb v L) :
    Calls Tryd.prog 40 #[.pointer (some ⟨sb, 0, none⟩)] w fun e w' => e = .returned (.int .i64 (L.length : Nat)) ∧ w = w' := by
  obtain ⟨A, c, rfl, hc, hC⟩ := h.reads
  have hc0 := cell_of_one h.cell
  clear h hC
  go_enter Tryd.func40, Tryd.ntmps40
  go_wp2_with fail
  go_ret
  exact ⟨rfl, rfl⟩
set_option maxHeartbeats 4000000 in
theorem qAt (base sb : Nat) (v : Value) (L : List S68) (w : World) (h : qAf w 91 base sb v L) (hn : L.length ≤ 100000) :
    Calls Tryd.prog 39 #[.pointer (some ⟨sb, 0, none⟩)] w fun e w' => ∃ v', e = .returned v' ∧ w'.ownsRow w.heap.size 68 2 v' L.length (cellsB L) ∧ Below w.heap.size w w' := by
  have HN := Aside0.mk (fun (A : Option Addr) (c : Nat) (e : v = .slice A L.length c) => qEi (a := A) (c := c) (e ▸ h.row))
  have HA := Aside0.mk (fun (A : Option Addr) (c : Nat) (e : v = .slice A L.length c) (e2 : A = none) => show L.length = 0 from by
    subst e2
    rcases h.row.2 with ⟨e1, e3⟩ | ⟨g, cap, cur, he, _⟩
    · exact e3
    · rw [e] at he; cases he)
  obtain ⟨A, c, rfl, hc, hC⟩ := h.reads
  have hc0 := cell_of_one h.cell
  clear h hC
  go_enter Tryd.func39, Tryd.ntmps39
  go_wp2_with fail
  refine (qC5 A L.length c (cellsB L) w (HA.out A c rfl) (qCk L) (by omega) (HN.out A c rfl) (qBl L)).mono ?_
  rintro e w1 ⟨v', rfl, ho, hb⟩
  have HO := Aside0.mk ho
  have HB := Aside0.mk hb
  clear ho hb
  go_wp2_with fail
  go_ret
  exact ⟨_, rfl, HO.out, HB.out⟩
set_option maxHeartbeats 4000000 in
theorem qBi (w : World) : Calls Tryd.prog 34 #[] w fun e w' => e = .returned (.pointer (some ⟨w.heap.size, 0, none⟩)) ∧ qAf w' 91 w.heap.size w.heap.size (.slice none 0 0) [] ∧ Below w.heap.size w w' := by
  have HB := Aside0.mk (qAc (Below.refl w.heap.size w) (.cells #[.slice none 0 0] 91))
  have HN := Aside0.mk (qBf w (.cells #[.slice none 0 0] 91))
  go_enter Tryd.func34, Tryd.ntmps34
  go_wp2_with fail
  go_ret
  exact ⟨rfl, ⟨HN.out, ⟨rfl, .inl ⟨rfl, rfl⟩⟩⟩, HB.out⟩
end Go.Proofs.YtbnoihpooeombaaDoor.X

namespace Go.Proofs.YtbnoihpooeombaaDoor.X
open Go.RowKit Go.Proofs.YtbnoihpooeombaaDoorW.PrintWords Go.Proofs.YtbnoihpooeombaaDoorW.PrintLast Go.Proofs.YtbnoihpooeombaaDoorW.PrintMore Go.Proofs.YtbnoihpooeombaaDoor.P
set_option linter.unusedVariables false
set_option linter.unusedSimpArgs false
set_option maxHeartbeats 8000000 in
set_option maxRecDepth 100000 in
theorem qDc (kD : Nat) (x : S68) (dx : ByteArray) (w : World) (hT : Aside0 (Tabs w)) (hD : sum_Digest.f kD x.f1 = some dx) :
    Calls Tryd.prog 65 #[.agg #[.string x.f0, .string x.f1]] w fun e w' => e = .returned (.bool (!(x.f0.toList == dx.toList))) ∧ Below w.heap.size w w' := by
  have HD := Aside0.mk hD
  have HB0 := Aside0.mk (qAc (Below.refl w.heap.size w) (.cells #[.string x.f0, .string x.f1] 68))
  have HX := Aside0.mk (qBf w (.cells #[.string x.f0, .string x.f1] 68))
  clear hD
  go_enter Tryd.func65, Tryd.ntmps65
  go_wp2_with fail
  generalize w.alloc (.cells #[.string x.f0, .string x.f1] 68) = W0 at *
  have z0 : W0.cell? ⟨w.heap.size, 0, none⟩ = some (.string x.f0) := (qAz HX.out 0).trans rfl
  have z1 : W0.cell? ⟨w.heap.size, 1, none⟩ = some (.string x.f1) := (qAz HX.out 1).trans rfl
  go_region_with (go_at_call 43; refine (sum_Digest.calls kD x.f1 dx _ ⟨Tabs.below hT.out (by repeat (first | exact HB0.out | apply qAg | apply qAh))⟩ HD.out).mono ?_; rintro e w1 ⟨rfl, hb1⟩; have HB1 : Aside0 (Below w.heap.size w w1) := ⟨qAa (by repeat (first | exact HB0.out | apply qAg | apply qAh)) hb1⟩; have HX1 : Aside0 (w1.heap[w.heap.size]? = _) := ⟨qC6 (by exact HX.out) hb1⟩; have z0_1 : w1.cell? ⟨w.heap.size, 0, none⟩ = some (.string x.f0) := (qAz HX1.out 0).trans rfl; clear hb1)
  all_goals
    go_wp2_with fail
    go_ret
    exact ⟨rfl, HB1.out⟩
def badB (dg : ByteArray → ByteArray) (x : S68) : Bool := !(x.f0.toList == (dg x.f1).toList)
set_option maxHeartbeats 8000000 in
set_option maxRecDepth 100000 in
theorem qDh (kD : Nat) (dg : ByteArray → ByteArray) (A : Option Addr) (c : Nat) (L : List S68) (w : World) (hT : Aside0 (Tabs w)) (hr : Kd.C k68 w A L.length L) (hc : L.length ≤ c) (hD : ∀ x ∈ L, sum_Digest.f kD x.f1 = some (dg x.f1)) :
    Calls Tryd.prog 92 #[.slice A L.length c, .func (.func 65) #[] #[]] w fun e w' => ∃ r : Int, e = .returned (.int .i64 r) ∧ decide (0 ≤ r) = L.any (badB dg) ∧ Below w.heap.size w w' := by
  have X := Aside0.mk hr
  have HD := Aside0.mk hD
  have hn : L.length ≤ 9223372036854775807 := hr.2.1
  have HB0 := Aside0.mk (Below.refl w.heap.size w)
  clear hr hD
  go_enter Tryd.func92, Tryd.ntmps92
  go_wp2_with fail
  go_loopw [8] (fun v8 wr => ∃ k : Nat, v8 = .int .i64 k ∧ k ≤ L.length ∧ Aside0 (∀ j (h : j < k) (h2 : j < L.length), badB dg L[j] = false) ∧ Aside0 (Below w.heap.size w wr)) (fun a _ => L.length - (intOf a).toNat)
  case atStart => exact ⟨0, rfl, by omega, ⟨fun j h => by omega⟩, HB0⟩
  case round =>
    obtain ⟨k, rfl, hk, HA, HB⟩ := hrel
    clear HB0
    by_cases hkl : k < L.length
    · have hkc : decide ((k : Int) < (L.length : Int)) = true := by simp; omega
      have hk0 : 0 ≤ (k : Int) := by omega
      obtain ⟨ad, rfl, z0, z1⟩ := at_T68 (Kd.C_below X.out HB.out) (k : Int) hk0 (by omega)
      simp only [Int.toNat_natCast] at z0 z1
      have HX := Aside0.mk (qBw L k hkl)
      generalize rd_T68 L (k : Int) = x at *
      have HDX := Aside0.mk (HD.out x (by rw [HX.out]; exact List.getElem_mem _))
      go_wp2_with fail
      refine (qDc kD x (dg x.f1) wr ⟨Tabs.below hT.out HB.out⟩ HDX.out).mono ?_
      rintro e w1 ⟨rfl, hb1⟩
      have HB1 := Aside0.mk (qAa HB.out hb1)
      clear hb1 z0 z1 HB HDX
      obtain ⟨bx, hbx⟩ : ∃ b, (x.f0.toList == (dg x.f1).toList) = b := ⟨_, rfl⟩
      have HBX := Aside0.mk (show badB dg x = !bx by rw [← hbx]; rfl)
      cases bx with
      | true =>
        go_wp2_with fail
        go_roundw
        case rel => exact ⟨k + 1, by go_num, by omega, ⟨fun j h h2 => by
          by_cases e : j = k
          · subst e
            rw [← HX.out, HBX.out]; rfl
          · exact HA.out j (by omega) h2⟩, HB1⟩
        case measure => simp [intOf]; omega
      | false =>
        go_wp2_with fail
        go_ret
        refine ⟨(k : Int), rfl, ?_, HB1.out⟩
        rw [decide_eq_true hk0]
        symm
        rw [List.any_eq_true]
        exact ⟨L[k], List.getElem_mem _, by rw [← HX.out, HBX.out]; rfl⟩
    · have hkc : decide ((k : Int) < (L.length : Int)) = false := by simp; omega
      have hkn : decide (k < L.length) = false := by simp; omega
      go_wp2_with fail
      go_ret
      refine ⟨-1, rfl, ?_, HB.out⟩
      rw [decide_eq_false (by omega)]
      symm
      rw [List.any_eq_false]
      intro x hx
      obtain ⟨j, hj, rfl⟩ := List.getElem_of_mem hx
      rw [HA.out j (by omega) hj]
      simp
set_option maxHeartbeats 8000000 in
theorem qCc (kD : Nat) (dg : ByteArray → ByteArray) (A : Option Addr) (c : Nat) (L : List S68) (w : World) (hT : Aside0 (Tabs w)) (hr : Kd.C k68 w A L.length L) (hc : L.length ≤ c) (hD : ∀ x ∈ L, sum_Digest.f kD x.f1 = some (dg x.f1)) :
    Calls Tryd.prog 64 #[.slice A L.length c, .func (.func 65) #[] #[]] w fun e w' => e = .returned (.bool (L.any (badB dg))) ∧ Below w.heap.size w w' := by
  have X := Aside0.mk hr
  have HD := Aside0.mk hD
  clear hr hD
  go_enter Tryd.func64, Tryd.ntmps64
  go_wp2_with fail
  refine (qDh kD dg A c L w hT X.out hc HD.out).mono ?_
  rintro e w1 ⟨r, rfl, hr, hb1⟩
  have HR := Aside0.mk hr
  have HB1 := Aside0.mk hb1
  clear hr hb1
  go_wp2_with fail
  go_ret
  exact ⟨by rw [← HR.out]; rfl, HB1.out⟩
end Go.Proofs.YtbnoihpooeombaaDoor.X

namespace Go.Proofs.YtbnoihpooeombaaDoor.X
open Go.RowKit Go.Proofs.YtbnoihpooeombaaDoorW.PrintWords Go.Proofs.YtbnoihpooeombaaDoorW.PrintLast Go.Proofs.YtbnoihpooeombaaDoorW.PrintMore Go.Proofs.YtbnoihpooeombaaDoor.P
set_option linter.unusedVariables false
set_option linter.unusedSimpArgs false
def loadP (dg : ByteArray → ByteArray) : List S68 → List S68 → Sum (List S68) Int
  | [], L => .inl L
  | x :: xs, L => if (putR L (dg x.f1) x.f1).2 = 0 then loadP dg xs (putL L (dg x.f1) x.f1) else .inr (putR L (dg x.f1) x.f1).2
def loadQ (dg : ByteArray → ByteArray) (bs : List S68) : Sum (List S68) Int := if bs.any (badB dg) = true then .inr 10 else loadP dg bs []
theorem qD9 (L M : List S68) : dgs (L ++ M) = dgs L ++ dgs M := by simp [dgs]
theorem qAv {L : List S68} (d data : ByteArray) (h : qAe (dgs L) = true) : qAe (dgs (putL L d data)) = true := by
  unfold putL
  by_cases c : isK (dgs L) d = true
  · rw [if_pos c]; exact h
  · rw [if_neg c]
    have := qBh (dgs L) d h (eq_false_of_ne_true c)
    have e : dgs (L.take (posK (dgs L) d) ++ ⟨d, data⟩ :: L.drop (posK (dgs L) d)) = (dgs L).take (posK (dgs L) d) ++ d :: (dgs L).drop (posK (dgs L) d) := by
      rw [qD9]
      simp [dgs, List.map_take, List.map_drop]
    rw [e]
    exact this
theorem qBq (L : List S68) (d data : ByteArray) : (putL L d data).length ≤ L.length + 1 := by
  unfold putL
  have := qDb (dgs L) d
  rw [qAx] at this
  split
  · omega
  · simp; omega
theorem qAo {w w1 w2 : World} {sb : Nat} {r : Option Nat} (h : Below w.heap.size w w1) (g : StepB w1 w2 sb r) (hs : w.heap.size ≤ sb) (hr : ∀ k, r = some k → w.heap.size ≤ k) : Below w.heap.size w w2 :=
  ⟨g.os.trans h.os, g.tape.trans h.tape, g.output.trans h.output, Nat.le_trans h.size g.size, fun k hk => (g.block k (Nat.lt_of_lt_of_le hk h.size) (by omega) (fun e => by have := hr k e.symm; omega)).trans (h.block k hk)⟩
theorem qAf.lower {w : World} {t base base' sb : Nat} {v : Value} {L : List S68} (h : qAf w t base sb v L) (hb : base' ≤ base) : qAf w t base' sb v L := ⟨h.cell, qCg h.row hb⟩
def qBa (t : Nat) (dg : ByteArray → ByteArray) (bs : List S68) (w : World) (e : Ending) (w' : World) : Prop :=
  Below w.heap.size w w' ∧ match loadQ dg bs with
  | .inl L => qAe (dgs L) = true ∧ L.length ≤ bs.length ∧ ∃ sb v, e = .returned (.tuple #[.pointer (some ⟨sb, 0, none⟩), .int .i64 0]) ∧ qAf w' t w.heap.size sb v L ∧ w.heap.size ≤ sb
  | .inr n => e = .returned (.tuple #[.pointer none, .int .i64 n])
set_option maxHeartbeats 8000000 in
set_option maxRecDepth 100000 in
theorem qCh (kD : Nat) (dg : ByteArray → ByteArray) (A : Option Addr) (c : Nat) (bs : List S68) (w : World) (hT : Aside0 (Tabs w)) (hr : Kd.C k68 w A bs.length bs) (hc : bs.length ≤ c) (hn : bs.length ≤ 10000) (hD : ∀ x ∈ bs, sum_Digest.f kD x.f1 = some (dg x.f1)) :
    Calls Tryd.prog 44 #[.slice A bs.length c] w (qBa 91 dg bs w) := by
  have X := Aside0.mk hr
  have HD := Aside0.mk hD
  clear hr hD
  go_enter Tryd.func44, Tryd.ntmps44
  go_wp2_with fail
  refine (qCc kD dg A c bs w hT X.out hc HD.out).mono ?_
  rintro e w1 ⟨rfl, hb1⟩
  have HB1 := Aside0.mk hb1
  clear hb1
  cases hg : bs.any (badB dg) with
  | true =>
    have HQ := Aside0.mk (show loadQ dg bs = .inr 10 by unfold loadQ; rw [if_pos hg])
    clear hg
    go_wp2_with fail
    go_ret2
    unfold qBa
    rw [HQ.out]
    exact ⟨HB1.out, rfl⟩
  | false =>
    have HQ := Aside0.mk (show loadQ dg bs = loadP dg bs [] by unfold loadQ; rw [if_neg (by rw [hg]; decide)])
    clear hg
    go_wp2_with fail
    refine (qBi w1).mono ?_
    rintro e w2 ⟨rfl, hs2, hb2⟩
    have hsb : w.heap.size ≤ w1.heap.size := HB1.out.size
    have HB2 := Aside0.mk (qAa HB1.out hb2)
    have HS2 := Aside0.mk (hs2.lower hsb)
    clear hs2 hb2 HB1
    generalize w1.heap.size = sb at *
    go_wp2_with fail
    go_loopw [14] (fun v14 wr => ∃ (k : Nat) (v : Value) (L : List S68), v14 = .int .i64 k ∧ k ≤ bs.length ∧ L.length ≤ k ∧ Aside0 (qAe (dgs L) = true) ∧ Aside0 (qAf wr 91 w.heap.size sb v L) ∧ Aside0 (Below w.heap.size w wr) ∧ Aside0 (loadP dg (bs.drop k) L = loadP dg bs [])) (fun a _ => bs.length - (intOf a).toNat)
    case atStart => exact ⟨0, _, [], rfl, by omega, by simp, ⟨rfl⟩, HS2, HB2, ⟨rfl⟩⟩
    case round =>
      obtain ⟨k, v, L, rfl, hk, hL, HR, HS, HB, HP⟩ := hrel
      clear HS2 HB2
      by_cases hkl : k < bs.length
      · have hkc : decide ((k : Int) < (bs.length : Int)) = true := by simp; omega
        have hk0 : 0 ≤ (k : Int) := by omega
        obtain ⟨ad, rfl, z0, z1⟩ := at_T68 (Kd.C_below X.out HB.out) (k : Int) hk0 (by omega)
        simp only [Int.toNat_natCast] at z0 z1
        have HX := Aside0.mk (qBw bs k hkl)
        generalize rd_T68 bs (k : Int) = x at *
        have HDX := Aside0.mk (HD.out x (by rw [HX.out]; exact List.getElem_mem _))
        have hP := HP.out
        rw [List.drop_eq_getElem_cons hkl, ← HX.out, loadP] at hP
        have HP2 := Aside0.mk hP
        clear hP HP HX
        have b3 := qAc (Below.refl wr.heap.size wr) (.cells #[.string x.f0, .string x.f1] 68)
        have HB3 := Aside0.mk (qAa HB.out b3)
        have HS3 := Aside0.mk (HS.out.below b3)
        clear b3 HS HB
        go_wp2_with fail
        clear z0 z1
        generalize wr.alloc (.cells #[.string x.f0, .string x.f1] 68) = W3 at *
        refine (qA1 kD w.heap.size sb v L x.f1 (dg x.f1) W3 ⟨Tabs.below hT.out HB3.out⟩ HS3.out HR.out (by omega) HDX.out (qAu HB3.out)).mono ?_
        rintro e w4 ⟨rfl, v', hs4, _, hst4⟩
        have HB4 := Aside0.mk (qAo HB3.out hst4 hsb (fun k hk => qA8 HS3.out.row k hk))
        have HS4 := Aside0.mk hs4
        clear hs4 hst4 HS3 HB3 HDX
        by_cases hz : (putR L (dg x.f1) x.f1).2 = 0
        · have hP := HP2.out
          rw [if_pos hz] at hP
          have HP3 := Aside0.mk hP
          have hzc : ((putR L (dg x.f1) x.f1).2 == 0) = true := beq_iff_eq.2 hz
          have hzn : ((putR L (dg x.f1) x.f1).2 != 0) = false := by rw [hz]; rfl
          have HR4 := Aside0.mk (qAv (dg x.f1) x.f1 HR.out)
          have hL4 := qBq L (dg x.f1) x.f1
          clear hP HP2 hz HR
          generalize putL L (dg x.f1) x.f1 = L' at *
          generalize putR L (dg x.f1) x.f1 = R at *
          go_wp2_with fail
          go_roundw
          case rel => exact ⟨k + 1, _, L', by go_num, by omega, by omega, HR4, HS4, HB4, HP3⟩
          case measure => simp [intOf]; omega
        · have hP := HP2.out
          rw [if_neg hz] at hP
          have HP3 := Aside0.mk (HQ.out.trans hP.symm)
          have hzc : ((putR L (dg x.f1) x.f1).2 == 0) = false := beq_eq_false_iff_ne.2 hz
          have hzn : ((putR L (dg x.f1) x.f1).2 != 0) = true := by rw [bne_iff_ne]; exact hz
          clear hP HP2 hz HR HQ
          generalize putR L (dg x.f1) x.f1 = R at *
          go_wp2_with fail
          go_ret2
          unfold qBa
          rw [HP3.out]
          exact ⟨HB4.out, rfl⟩
      · have hkc : decide ((k : Int) < (bs.length : Int)) = false := by simp; omega
        have hkn : decide (k < bs.length) = false := by simp; omega
        have hP := HP.out
        rw [List.drop_of_length_le (by omega), loadP] at hP
        have HP3 := Aside0.mk (HQ.out.trans hP.symm)
        clear hP HP hkl HQ
        go_wp2_with fail
        go_ret2
        unfold qBa
        rw [HP3.out]
        exact ⟨HB.out, HR.out, by omega, sb, v, rfl, HS.out, hsb⟩
end Go.Proofs.YtbnoihpooeombaaDoor.X

namespace Go.Proofs.YtbnoihpooeombaaDoor.X
open Go.RowKit Go.Proofs.YtbnoihpooeombaaDoorW.PrintWords Go.Proofs.YtbnoihpooeombaaDoor.P
set_option linter.unusedVariables false
set_option linter.unusedSimpArgs false
def nextN (h b : Int) : Int := IntKind.u64.wrap ((bits .xor .u64 h (IntKind.u64.wrap b)) * 1099511628211)
def sumL (xs : List Int) (h : Int := 14695981039346656037) : Int := xs.foldl nextN h
theorem qEs (h b : Int) : sum_Next.f h b = some (nextN h b) := rfl
theorem qDa (ls : List (List Int)) (j : Nat) (h : j < ls.length) : rd_L7 ls (j : Int) = ls[j] := by
  simp [rd_L7, List.getD_eq_getElem?_getD, h]
theorem of_l1 (ls : List (List Int)) (hL : ls.length ≤ 9223372036854775807) (j : Nat) (hj : j < ls.length) (xs : List Int) (hn : xs.length ≤ 9223372036854775807) : ∀ (d : Nat) (k k0 i : Nat) (h : Int), xs.length - i = d → i ≤ xs.length → k = k0 + d + 1 →
    sum_Of.l1 k h ls ls.length j xs xs.length i = sum_Of.l0 k0 (sumL (xs.drop i) h) ls ls.length ((j + 1 : Nat) : Int) := by
  intro d
  induction d with
  | zero =>
    intro k k0 i h hd hi hk
    obtain ⟨m, rfl⟩ : ∃ m, k = m + 1 := ⟨k - 1, by omega⟩
    obtain rfl : m = k0 := by omega
    simp only [sum_Of.l1]
    rw [if_neg (by omega), List.drop_eq_nil_of_le (by omega), qDx (n := ls.length) (by omega) (by omega) hL]
    rfl
  | succ d ih =>
    intro k k0 i h hd hi hk
    obtain ⟨m, rfl⟩ : ∃ m, k = m + 1 := ⟨k - 1, by omega⟩
    have hlt : i < xs.length := by omega
    simp only [sum_Of.l1]
    rw [if_pos (by omega), if_pos (by omega), if_pos (by omega), qEs]
    simp only [Option.bind_some]
    rw [qDx (n := xs.length) (by omega) (by omega) hn, qDs xs i hlt]
    have := ih m k0 (i + 1) (nextN h xs[i]) (by omega) (by omega) (by omega)
    rw [show ((i : Int) + 1) = ((i + 1 : Nat) : Int) by omega, this, List.drop_eq_getElem_cons hlt]
    rfl
def sumP (ls : List (List Int)) (h : Int := 14695981039346656037) : Int := ls.foldl (fun h xs => sumL xs h) h
theorem of_l0 (ls : List (List Int)) (hL : ls.length ≤ 9223372036854775807) (hx : ∀ xs ∈ ls, xs.length ≤ 9223372036854775807) : ∀ (d : Nat) (i : Nat) (h : Int), ls.length - i = d → i ≤ ls.length →
    ∃ K, ∀ k, K ≤ k → sum_Of.l0 k h ls ls.length i = some (sumP (ls.drop i) h) := by
  intro d
  induction d with
  | zero =>
    intro i h hd hi
    refine ⟨1, fun k hk => ?_⟩
    obtain ⟨k, rfl⟩ : ∃ m, k = m + 1 := ⟨k - 1, by omega⟩
    simp only [sum_Of.l0]
    rw [if_neg (by omega), List.drop_eq_nil_of_le (by omega)]
    rfl
  | succ d ih =>
    intro i h hd hi
    have hlt : i < ls.length := by omega
    obtain ⟨K, hK⟩ := ih (i + 1) (sumL ls[i] h) (by omega) (by omega)
    refine ⟨K + ls[i].length + 2, fun k hk => ?_⟩
    obtain ⟨k', rfl⟩ : ∃ m, k = m + ls[i].length + 1 + 1 := ⟨k - ls[i].length - 2, by omega⟩
    simp only [sum_Of.l0]
    rw [if_pos (by omega), if_pos (by omega), if_pos (by omega), qDa ls i hlt]
    have := of_l1 ls hL i hlt ls[i] (hx _ (List.getElem_mem hlt)) ls[i].length _ k' 0 h (by omega) (by omega) rfl
    simp only [List.drop_zero, Int.natCast_zero] at this
    rw [this, hK k' (by omega), List.drop_eq_getElem_cons hlt]
    rfl
theorem of_eq (ls : List (List Int)) (hL : ls.length ≤ 9223372036854775807) (hx : ∀ xs ∈ ls, xs.length ≤ 9223372036854775807) : Ev (fun k => sum_Of.f k ls) (sumP ls) := by
  obtain ⟨K, hK⟩ := of_l0 ls hL hx ls.length 0 14695981039346656037 (by omega) (by omega)
  exact ⟨K, fun k hk => by have := hK k hk; simpa [sum_Of.f] using this⟩
theorem qEf (xs : List Int) : sumP [xs] = sumL xs := rfl
def hexP : Nat → Nat → List UInt8
  | 0, _ => []
  | n + 1, u => hexP n (u / 16) ++ [dch (u % 16)]
def hexS (u : Int) : ByteArray := ⟨(hexP 16 u.toNat).toArray⟩
theorem qB2 : ∀ n u, (hexP n u).length = n
  | 0, _ => rfl
  | n + 1, u => by simp [hexP, qB2 n]
theorem qC1 : ∀ n, hexP n 0 = List.replicate n (dch 0)
  | 0 => rfl
  | n + 1 => by rw [hexP, Nat.zero_div, qC1 n, List.replicate_succ']
theorem qCf : ∀ n u, 0 < n → u < 16 ^ n → (qAj 16 u).length ≤ n ∧ List.replicate (n - (qAj 16 u).length) (dch 0) ++ qAj 16 u = hexP n u
  | 0, _, h, _ => absurd h (by omega)
  | 1, u, _, hu => by
    rw [qBe (by simpa using hu)]
    have : u % 16 = u := Nat.mod_eq_of_lt (by simpa using hu)
    simp [hexP, this]
  | n + 2, u, _, hu => by
    by_cases h : u < 16
    · rw [qBe h]
      refine ⟨by simp, ?_⟩
      rw [hexP, Nat.div_eq_of_lt h, qC1, Nat.mod_eq_of_lt h]
      rfl
    · have hd : u / 16 < 16 ^ (n + 1) := by
        rw [Nat.div_lt_iff_lt_mul (by omega)]
        calc u < 16 ^ (n + 2) := hu
          _ = 16 ^ (n + 1) * 16 := Nat.pow_succ ..
      obtain ⟨hl, he⟩ := qCf (n + 1) (u / 16) (by omega) hd
      rw [qB4 (by omega) (by omega)]
      refine ⟨by simp; omega, ?_⟩
      rw [hexP, ← he, List.length_append, ← List.append_assoc]
      simp
theorem hex_eq (u : Int) (h0 : 0 ≤ u) (h1 : u < 18446744073709551616) : sum_Hex.f u = some (hexS u) := by
  obtain ⟨n, rfl⟩ := Int.eq_ofNat_of_zero_le h0
  obtain ⟨hl, he⟩ := qCf 16 n (by omega) (by omega)
  unfold sum_Hex.f strconv_FormatUint.f
  rw [if_pos ⟨h0, h1, rfl⟩]
  simp only [Option.bind_some, Int.toNat_natCast, qDz]
  have e : wrap64 (16 - ((qAj 16 n).length : Int)) = ((16 - (qAj 16 n).length : Nat) : Int) := by unfold wrap64; omega
  rw [e]
  unfold strings_Repeat.f
  have e1 : (⟨#[48]⟩ : ByteArray).size = 1 := rfl
  rw [if_pos ⟨by omega, by omega, by rw [e1, Int.toNat_natCast]; omega⟩]
  simp only [Option.bind_some, Int.toNat_natCast]
  rw [qBo, qDz, if_pos (by simp; omega), qEc, he]
  rfl
theorem qBz (h b : Int) : 0 ≤ nextN h b ∧ nextN h b < 18446744073709551616 := by
  unfold nextN
  rw [IntKind.wrap_u64]
  omega
theorem qDq (xs : List Int) : ∀ h : Int, 0 ≤ h → h < 18446744073709551616 → 0 ≤ sumL xs h ∧ sumL xs h < 18446744073709551616 := by
  induction xs with
  | nil => exact fun h h0 h1 => ⟨h0, h1⟩
  | cons x xs ih => exact fun h h0 h1 => ih _ (qBz h x).1 (qBz h x).2
theorem sumL_range' (xs : List Int) : 0 ≤ sumL xs ∧ sumL xs < 18446744073709551616 := qDq xs _ (by omega) (by omega)
theorem qD8 (s : ByteArray) (hs : s.size ≤ 9223372036854775807) : Ev (fun k => sum_Digest.f k s) (hexS (sumL (qAr s))) := by
  obtain ⟨K, hK⟩ := of_eq [qAr s] (by simp) (by intro xs hx; simp at hx; subst hx; rw [qA0]; exact hs)
  refine ⟨K, fun k hk => ?_⟩
  have hr := sumL_range' (qAr s)
  show sum_Digest.f k s = _
  unfold sum_Digest.f
  have hK := hK k hk
  simp only at hK
  rw [if_pos hs, hK, qEf]
  simp only [Option.bind_some]
  exact hex_eq _ hr.1 hr.2
theorem qDi (u : Int) : (hexS u).toList = hexP 16 u.toNat := by
  unfold hexS
  have h : (⟨(hexP 16 u.toNat).toArray⟩ : ByteArray).toList = ((hexP 16 u.toNat).toArray).toList := by
    exact Lib.toList_data _
  rw [h]
end Go.Proofs.YtbnoihpooeombaaDoor.X

namespace Go.Proofs.YtbnoihpooeombaaDoor.X
open Go.RowKit Go.Proofs.YtbnoihpooeombaaDoorW.PrintWords Go.Proofs.YtbnoihpooeombaaDoorW.PrintLast Go.Proofs.YtbnoihpooeombaaDoorW.PrintMore Go.Proofs.YtbnoihpooeombaaDoor.P
set_option linter.unusedVariables false
set_option linter.unusedSimpArgs false
theorem qCr (key other : ByteArray) : isK [key] other = decide (other = key) := by
  rw [Bool.eq_iff_iff, qBk [key] other rfl, decide_eq_true_eq, List.mem_singleton]
theorem qD0 (key : ByteArray) : posK [key] key = 0 := by
  have := (isK_lt (by rw [qCr]; simp : isK [key] key = true)).1
  simpa using this
theorem qDr {α : Type} {d : Kd α} {w : World} {g t : Nat} {cs : List Value} {x : α} (h : w.heap[g]? = some (.cells cs.toArray t (0, 0))) (hK : d.K w x cs) : d.C w (some ⟨g, 0, none⟩) 1 [x] := by
  refine ⟨rfl, by omega, fun _ => ⟨⟨g, 0, none⟩, rfl, fun j p hj => ?_⟩⟩
  cases j with
  | zero =>
    cases hj
    refine ⟨cs, d.K_len hK, hK, fun i u hu => ?_⟩
    rw [Nat.zero_mul, Nat.zero_add]
    exact qEj h _ rfl i u hu
  | succ j => simp at hj
def digD (s : ByteArray) : ByteArray := hexS (sumL (qAr s))
theorem dig_Ev (s : ByteArray) (hs : s.size ≤ 9223372036854775807) : Ev (fun k => sum_Digest.f k s) (digD s) := qD8 s hs
def digA : ByteArray := ⟨#[97, 102, 54, 51, 100, 99, 52, 99, 56, 54, 48, 49, 101, 99, 56, 99]⟩
theorem qEw : digD ⟨#[97]⟩ = digA := by
  have h2 : hexP 16 (sumL (qAr ⟨#[97]⟩)).toNat = [97, 102, 54, 51, 100, 99, 52, 99, 56, 54, 48, 49, 101, 99, 56, 99] := by decide +kernel
  unfold digD hexS digA
  rw [h2]
theorem qEv : digD ⟨#[]⟩ ≠ ⟨#[120]⟩ := by
  intro h
  have h1 : (digD ⟨#[]⟩).toList.length = 16 := by unfold digD; rw [qDi, qB2]
  rw [h] at h1
  have : (⟨#[120]⟩ : ByteArray).toList = [120] := Lib.toList_data _
  rw [this] at h1
  cases h1
def blobA : S68 := ⟨digA, ⟨#[97]⟩⟩
theorem qDm (d : ByteArray) : isK (dgs []) d = false := by
  unfold isK
  rw [decide_eq_false_iff_not]
  rintro ⟨h, _⟩
  exact absurd h (by simp [dgs])
theorem putA1 : putL [] digA ⟨#[97]⟩ = [blobA] ∧ putR [] digA ⟨#[97]⟩ = (digA, 0) := by
  refine ⟨?_, ?_⟩
  · unfold putL
    rw [if_neg (by rw [qDm]; decide)]
    simp [blobA]
  · unfold putR
    rw [if_neg (fun h => by rw [qDm] at h; exact absurd h.1 (by decide))]
theorem isA : isK (dgs [blobA]) digA = true ∧ posK (dgs [blobA]) digA = 0 := ⟨qCr digA digA ▸ (by simp [dgs, blobA, qCr]), qD0 digA⟩
theorem putA2 : putL [blobA] digA ⟨#[97]⟩ = [blobA] ∧ putR [blobA] digA ⟨#[97]⟩ = (digA, 0) := by
  refine ⟨?_, ?_⟩
  · unfold putL
    rw [if_pos isA.1]
  · unfold putR
    rw [if_neg]
    rintro ⟨_, h⟩
    rw [isA.2] at h
    exact h rfl
theorem getA : getB [blobA] digA = (⟨#[97]⟩, true) := by
  unfold getB
  rw [if_pos isA.1, isA.2]
  rfl
theorem badA : loadQ digD [⟨⟨#[120]⟩, ⟨#[]⟩⟩] = .inr 10 := by
  unfold loadQ
  rw [if_pos]
  rw [List.any_cons, List.any_nil, Bool.or_false]
  unfold badB
  rw [Bool.not_eq_true']
  rw [beq_eq_false_iff_ne]
  intro h
  exact qEv ((qBj _ _).1 h).symm
set_option maxHeartbeats 8000000 in
set_option maxRecDepth 100000 in
theorem qA4 (kD : Nat) (w : World) (hT : Aside0 (Tabs w)) (h1 : sum_Digest.f kD ⟨#[97]⟩ = some digA) (h2 : sum_Digest.f kD ⟨#[]⟩ = some (digD ⟨#[]⟩)) :
    Calls Tryd.prog 33 #[] w fun e w' => e = .returned (.bool true) ∧ Below w.heap.size w w' := by
  have H1 := Aside0.mk h1
  have H2 := Aside0.mk h2
  clear h1 h2
  go_enter Tryd.func33, Tryd.ntmps33
  go_wp2_with fail
  refine (qBi w).mono ?_
  rintro e w1 ⟨rfl, hs1, hb1⟩
  have HB1 := Aside0.mk hb1
  have HS1 := Aside0.mk hs1
  clear hs1 hb1
  go_wp2_with fail
  refine (qA1 kD w.heap.size w.heap.size _ [] ⟨#[97]⟩ digA w1 ⟨Tabs.below hT.out HB1.out⟩ HS1.out rfl (by simp) H1.out (qAu HB1.out)).mono ?_
  rw [putA1.1, putA1.2]
  rintro e w2 ⟨rfl, v2, hs2, _, hst2⟩
  have HB2 := Aside0.mk (qAo HB1.out hst2 (Nat.le_refl _) (fun k hk => by cases hk))
  have HS2 := Aside0.mk hs2
  clear hs2 hst2 HS1 HB1
  dsimp only
  go_wp2_with fail
  refine (qA1 kD w.heap.size w.heap.size v2 [blobA] ⟨#[97]⟩ digA w2 ⟨Tabs.below hT.out HB2.out⟩ HS2.out rfl (by simp) H1.out (qAu HB2.out)).mono ?_
  rw [putA2.1, putA2.2]
  rintro e w3 ⟨rfl, v3, hs3, _, hst3⟩
  have HB3 := Aside0.mk (qAo HB2.out hst3 (Nat.le_refl _) (fun k hk => qA8 HS2.out.row k hk))
  have HS3 := Aside0.mk hs3
  clear hs3 hst3 HS2 HB2
  dsimp only
  go_wp2_with fail
  refine (qC2 w.heap.size w.heap.size v3 [blobA] digA w3 HS3.out rfl (by simp)).mono ?_
  rw [getA]
  rintro e w4 ⟨rfl, hb4⟩
  have HB4 := Aside0.mk (qAa HB3.out hb4)
  have HS4 := Aside0.mk (HS3.out.below hb4)
  clear hb4 HS3 HB3
  dsimp only
  have b5 := qAc (Below.refl w4.heap.size w4) (.cells #[.string ⟨#[120]⟩, .string ⟨#[]⟩] 68)
  have HB5 := Aside0.mk (qAa HB4.out b5)
  have HS5 := Aside0.mk (HS4.out.below b5)
  have HN5 := Aside0.mk (qBf w4 (.cells #[.string ⟨#[120]⟩, .string ⟨#[]⟩] 68))
  clear b5 HB4 HS4
  go_wp2_with fail
  generalize w4.alloc (.cells #[.string ⟨#[120]⟩, .string ⟨#[]⟩] 68) = W5 at *
  have HL := Aside0.mk (qCh kD digD (some ⟨w4.heap.size, 0, none⟩) 1 [⟨⟨#[120]⟩, ⟨#[]⟩⟩] W5 ⟨Tabs.below hT.out HB5.out⟩ (qDr (d := k68) HN5.out (k68_mk W5 ⟨⟨#[120]⟩, ⟨#[]⟩⟩)) (Nat.le_refl _) (by simp) (fun x hx => by rw [List.mem_singleton.1 hx]; exact H2.out))
  obtain ⟨HL⟩ := HL
  simp only [List.length_singleton] at HL
  refine HL.mono ?_
  clear HL
  intro e w6 hp
  unfold qBa at hp
  rw [badA] at hp
  obtain ⟨hb6, rfl⟩ := hp
  have HB6 := Aside0.mk (qAa HB5.out hb6)
  have HS6 := Aside0.mk (HS5.out.below hb6)
  clear hb6 HB5 HS5 HN5
  have hda : (digA.toList == [97, 102, 54, 51, 100, 99, 52, 99, 56, 54, 48, 49, 101, 99, 56, 99]) = true := by
    rw [beq_iff_eq]; exact Lib.toList_data _
  have hdd : (digA.toList == digA.toList) = true := by simp
  go_wp2_with (go_at_call 40; refine (qCz w.heap.size w.heap.size v3 [blobA] w6 HS6.out).mono ?_; rintro e w7 ⟨rfl, rfl⟩)
  go_ret
  exact ⟨rfl, HB6.out⟩
end Go.Proofs.YtbnoihpooeombaaDoor.X

namespace Go.Proofs.YtbnoihpooeombaaDoor.P
open Go.Proofs.YtbnoihpooeombaaDoor.X
open Go.RowKit Go.Proofs.YtbnoihpooeombaaDoorW.PrintWords Go.Proofs.YtbnoihpooeombaaDoorW.PrintLast Go.Proofs.YtbnoihpooeombaaDoorW.PrintMore
set_option linter.unusedVariables false
set_option linter.unusedSimpArgs false
theorem eqA68 (d : Nat) (w : World) (x0 y0 : ByteArray) (x1 y1 : ByteArray) :
    (Op.equalIn (d + 2) 68 (.agg #[.string x0, .string x1]) (.agg #[.string y0, .string y1])).run Tryd.prog w = .ok (x0.toList == y0.toList && (x1.toList == y1.toList)) w := by
  refine eqA_of Tryd.underlying68 (by kernel_rfl) ?_
  refine qEn (by rfl) (by go_simp; rfl) (by go_simp; rfl) (by go_simp) ?_
  exact qEm (by rfl) (by go_simp; rfl) (by go_simp; rfl) (by go_simp)
end Go.Proofs.YtbnoihpooeombaaDoor.P

namespace Go.Proofs.YtbnoihpooeombaaDoor.P
open Go.Proofs.YtbnoihpooeombaaDoor.X
open Go.RowKit Go.Proofs.YtbnoihpooeombaaDoorW.PrintWords Go.Proofs.YtbnoihpooeombaaDoorW.PrintLast Go.Proofs.YtbnoihpooeombaaDoorW.PrintMore
set_option linter.unusedVariables false
set_option linter.unusedSimpArgs false
attribute [local go_sem high] eqA68
def hogsheadlaw0_SameBlobs.l0 : Nat → List (S68) → List (S68) → Int → Option (Bool)
 | 0, _, _, _ => none
 | k + 1, x0, x1, x5 => if x5 < (x0.length : Int) then (if 0 ≤ x5 then (if x5 < (x1.length : Int) then (if (!((((rd_T68 x0 x5).f0).toList) == (((rd_T68 x1 x5).f0).toList)) || (!((((rd_T68 x0 x5).f1).toList) == (((rd_T68 x1 x5).f1).toList)))) = true then (some false) else (hogsheadlaw0_SameBlobs.l0 k x0 x1 (wrap64 (x5 + 1)))) else (none)) else (none)) else (some true)
def hogsheadlaw0_SameBlobs.f (k : Nat) (l0 : List (S68)) (l1 : List (S68)) : Option (Bool) := if (l0.length : Int) = (l1.length : Int) then (hogsheadlaw0_SameBlobs.l0 k l0 l1 0) else (some false)
set_option maxHeartbeats 8000000 in
set_option maxRecDepth 100000 in
theorem hogsheadlaw0_SameBlobs.calls (k : Nat) (A0 : Option Addr) (c0 : Nat) (l0 : List (S68)) (A1 : Option Addr) (c1 : Nat) (l1 : List (S68)) (r : Bool) (w : World) (hr0 : Kd.C k68 w A0 l0.length l0) (hc0 : l0.length ≤ c0) (hr1 : Kd.C k68 w A1 l1.length l1) (hc1 : l1.length ≤ c1) (h : hogsheadlaw0_SameBlobs.f k l0 l1 = some r) :
  Calls Tryd.prog 41 #[.slice A0 l0.length c0, .slice A1 l1.length c1] w fun e w' => e = .returned (.bool r) ∧ Drawn0 w w' := by
 have hu68 := Tryd.underlying68
 have HR0 := Aside0.mk hr0
 have HC0 := Aside0.mk hc0
 clear hr0 hc0
 have HR1 := Aside0.mk hr1
 have HC1 := Aside0.mk hc1
 clear hr1 hc1
 have H : (if (l0.length : Int) = (l1.length : Int) then (hogsheadlaw0_SameBlobs.l0 k l0 l1 0) else (some false)) = some r := h
 clear h
 by_cases c3 : (l0.length : Int) = (l1.length : Int)
 ·rw [if_pos c3] at H
  have c3b0 : ((l0.length : Int) == (l1.length : Int)) = true := beq_iff_eq.mpr c3
  have c3b1 : ((l0.length : Int) != (l1.length : Int)) = false := bne_eq_false_iff_eq.mpr c3
  have c3b2 : (l0.length == l1.length) = true := by first | simpa using c3 | (simp at c3 ⊢; omega)
  clear c3
  have H' := Aside0.mk H
  clear H
  go_enter Tryd.func41, Tryd.ntmps41
  go_wp2
  repeat (go_quiet (fail); try go_wp2)
  go_loopg [5] k (fun kq v5 w' => ∃ (x5_1 : Int), v5 = .int .i64 x5_1 ∧ Aside0 (hogsheadlaw0_SameBlobs.l0 kq l0 l1 x5_1 = some r) ∧ Aside0 (kq ≤ k) ∧ Drawn0 w w')
  case atStart => exact ⟨(0), (by first | rfl | (simp; done) | (simp [*]; done) | exact congrArg Value.bool (nil_ne _) | exact congrArg Value.bool (nil_eq _) | exact congrArg Value.bool (nil_ne' _)), H', ⟨Nat.le_refl _⟩, by repeat (first | exact Drawn0.refl _ | apply Drawn0.step)⟩
  case round =>
   clear H'
   try clear c1
   try clear p2
   try clear c3
   try clear c3b0
   try clear c3b1
   try clear c3b2
   obtain ⟨x5_1, rfl, HA, HK1, ⟨m1, rfl⟩⟩ := hrel
   cases gk with
   | zero => exact absurd HA.out (by simp [hogsheadlaw0_SameBlobs.l0])
   | succ k1 =>
    have H := HA.out
    clear HA
    simp only [hogsheadlaw0_SameBlobs.l0] at H
    by_cases c4 : x5_1 < (l0.length : Int)
    ·rw [if_pos c4] at H
     have c4b0 : decide (x5_1 < (l0.length : Int)) = true := decide_eq_true c4
     clear c4
     by_cases c5 : 0 ≤ x5_1
     ·rw [if_pos c5] at H
      have c5b0 : decide (0 ≤ x5_1) = true := decide_eq_true c5
      clear c5
      by_cases c6 : x5_1 < (l1.length : Int)
      ·rw [if_pos c6] at H
       have c6b0 : decide (x5_1 < (l1.length : Int)) = true := decide_eq_true c6
       clear c6
       by_cases c7 : (!((((rd_T68 l0 x5_1).f0).toList) == (((rd_T68 l1 x5_1).f0).toList)) || (!((((rd_T68 l0 x5_1).f1).toList) == (((rd_T68 l1 x5_1).f1).toList)))) = true
       ·rw [if_pos c7] at H
        have c7b0 : (!((((rd_T68 l0 x5_1).f0).toList) == (((rd_T68 l1 x5_1).f0).toList)) || (!((((rd_T68 l0 x5_1).f1).toList) == (((rd_T68 l1 x5_1).f1).toList)))) = true := c7
        clear c7
        obtain rfl := Option.some.inj H
        have p531 : 0 ≤ (x5_1 : Int) := of_decide_eq_true (by first | (with_reducible assumption) | assumption)
        have q531 : x5_1 < (l0.length : Int) := of_decide_eq_true (by first | (with_reducible assumption) | assumption)
        obtain ⟨ad531, e531, hx531_0, hx531_1⟩ := at_T68 HR0.out x5_1 p531 q531
        cases e531
        replace p531 := eq_true p531
        replace q531 := eq_true q531
        have p532 : 0 ≤ (x5_1 : Int) := of_decide_eq_true (by first | (with_reducible assumption) | assumption)
        have q532 : x5_1 < (l1.length : Int) := of_decide_eq_true (by first | (with_reducible assumption) | assumption)
        obtain ⟨ad532, e532, hx532_0, hx532_1⟩ := at_T68 HR1.out x5_1 p532 q532
        cases e532
        replace p532 := eq_true p532
        replace q532 := eq_true q532
        go_wp2
        repeat (go_quiet (fail); try go_wp2)
        go_ret
        exact ⟨by first | rfl | (simp; done) | (simp [*]; done), by repeat (first | exact Drawn0.refl _ | apply Drawn0.step)⟩
       ·rw [if_neg c7] at H
        have c7b0 : (!((((rd_T68 l0 x5_1).f0).toList) == (((rd_T68 l1 x5_1).f0).toList)) || (!((((rd_T68 l0 x5_1).f1).toList) == (((rd_T68 l1 x5_1).f1).toList)))) = false := by simpa using c7
        clear c7
        have H' := Aside0.mk H
        clear H
        have p531 : 0 ≤ (x5_1 : Int) := of_decide_eq_true (by first | (with_reducible assumption) | assumption)
        have q531 : x5_1 < (l0.length : Int) := of_decide_eq_true (by first | (with_reducible assumption) | assumption)
        obtain ⟨ad531, e531, hx531_0, hx531_1⟩ := at_T68 HR0.out x5_1 p531 q531
        cases e531
        replace p531 := eq_true p531
        replace q531 := eq_true q531
        have p532 : 0 ≤ (x5_1 : Int) := of_decide_eq_true (by first | (with_reducible assumption) | assumption)
        have q532 : x5_1 < (l1.length : Int) := of_decide_eq_true (by first | (with_reducible assumption) | assumption)
        obtain ⟨ad532, e532, hx532_0, hx532_1⟩ := at_T68 HR1.out x5_1 p532 q532
        cases e532
        replace p532 := eq_true p532
        replace q532 := eq_true q532
        go_wp2
        repeat (go_quiet (fail); try go_wp2)
        go_roundg k1
        case measure => have := HK1.out; omega
        case rel => exact ⟨(wrap64 (x5_1 + 1)), (by first | rfl | (simp; done) | (simp [*]; done) | exact congrArg Value.bool (nil_ne _) | exact congrArg Value.bool (nil_eq _) | exact congrArg Value.bool (nil_ne' _)), H', ⟨by have := HK1.out; omega⟩, by repeat (first | exact Drawn0.refl _ | apply Drawn0.step)⟩
      ·rw [if_neg c6] at H
       exact absurd H (by simp)
     ·rw [if_neg c5] at H
      exact absurd H (by simp)
    ·rw [if_neg c4] at H
     have c4b0 : decide (x5_1 < (l0.length : Int)) = false := decide_eq_false c4
     clear c4
     obtain rfl := Option.some.inj H
     go_wp2
     repeat (go_quiet (fail); try go_wp2)
     go_ret
     exact ⟨by first | rfl | (simp; done) | (simp [*]; done), by repeat (first | exact Drawn0.refl _ | apply Drawn0.step)⟩
 ·rw [if_neg c3] at H
  have c3b0 : ((l0.length : Int) == (l1.length : Int)) = false := beq_eq_false_iff_ne.mpr c3
  have c3b1 : ((l0.length : Int) != (l1.length : Int)) = true := bne_iff_ne.mpr c3
  have c3b2 : (l0.length == l1.length) = false := by first | simpa using c3 | (simp at c3 ⊢; omega)
  obtain rfl := Option.some.inj H
  go_enter Tryd.func41, Tryd.ntmps41
  go_wp2
  repeat (go_quiet (fail); try go_wp2)
  go_ret
  exact ⟨by first | rfl | (simp; done) | (simp [*]; done), by repeat (first | exact Drawn0.refl _ | apply Drawn0.step)⟩
end Go.Proofs.YtbnoihpooeombaaDoor.P

namespace Go.Proofs.YtbnoihpooeombaaDoor.X
open Go.RowKit Go.Proofs.YtbnoihpooeombaaDoorW.PrintWords Go.Proofs.YtbnoihpooeombaaDoor.P
set_option linter.unusedVariables false
set_option linter.unusedSimpArgs false
theorem qCw (a : List S68) (hn : a.length ≤ 1000000) : ∀ (d i : Nat), a.length - i = d → i ≤ a.length → Ev (fun k => hogsheadlaw0_SameBlobs.l0 k a a (i : Int)) true := by
  intro d
  induction d with
  | zero =>
    intro i hd hi
    refine ⟨1, fun k hk => ?_⟩
    obtain ⟨k, rfl⟩ : ∃ m, k = m + 1 := ⟨k - 1, by omega⟩
    simp only [hogsheadlaw0_SameBlobs.l0]
    rw [if_neg (by omega)]
  | succ d ih =>
    intro i hd hi
    obtain ⟨K, hK⟩ := ih (i + 1) (by omega) (by omega)
    refine ⟨K + 1, fun k hk => ?_⟩
    obtain ⟨k, rfl⟩ : ∃ m, k = m + 1 := ⟨k - 1, by omega⟩
    simp only [hogsheadlaw0_SameBlobs.l0]
    rw [if_pos (by omega), if_pos (by omega), if_pos (by omega), if_neg (by simp), wrap_i i a.length (by omega) (by omega)]
    have := hK k (by omega)
    simp only at this
    exact this
theorem qCb (a : List S68) (hn : a.length ≤ 1000000) : Ev (fun k => hogsheadlaw0_SameBlobs.f k a a) true := by
  obtain ⟨K, hK⟩ := qCw a hn a.length 0 (by omega) (by omega)
  refine ⟨K, fun k hk => ?_⟩
  show hogsheadlaw0_SameBlobs.f k a a = _
  unfold hogsheadlaw0_SameBlobs.f
  rw [if_pos rfl]
  exact hK k hk
theorem qB0 (dg : ByteArray → ByteArray) : ∀ (xs L0 : List S68), qAe (dgs (L0 ++ xs)) = true → (∀ x ∈ xs, x.f0 = dg x.f1) → loadP dg xs L0 = .inl (L0 ++ xs)
  | [], L0, _, _ => by rw [loadP, List.append_nil]
  | x :: xs, L0, h, hx => by
    have h1 : dg x.f1 = x.f0 := (hx x List.mem_cons_self).symm
    have h2 : qAe (dgs L0 ++ x.f0 :: dgs xs) = true := by
      have e : dgs (L0 ++ x :: xs) = dgs L0 ++ x.f0 :: dgs xs := by rw [qD9]; rfl
      rw [← e]; exact h
    obtain ⟨hp, hi⟩ := qEh (qCd (dgs L0) x.f0 (dgs xs) h2)
    have hL : putL L0 x.f0 x.f1 = L0 ++ [x] := by
      unfold putL
      rw [if_neg (by rw [hi]; decide), hp, qAx, List.take_of_length_le (Nat.le_refl _), List.drop_of_length_le (Nat.le_refl _)]
    have hR : (putR L0 x.f0 x.f1).2 = 0 := by
      unfold putR
      rw [if_neg (fun h => by rw [hi] at h; cases h.1)]
    rw [loadP, h1, if_pos hR, hL, qB0 dg xs (L0 ++ [x]) (by rw [List.append_assoc]; exact h) (fun y hy => hx y (List.mem_cons_of_mem _ hy)), List.append_assoc]
    rfl
end Go.Proofs.YtbnoihpooeombaaDoor.X

namespace Go.Proofs.YtbnoihpooeombaaDoor.X
open Go.RowKit Go.Proofs.YtbnoihpooeombaaDoorW.PrintWords Go.Proofs.YtbnoihpooeombaaDoorW.PrintLast Go.Proofs.YtbnoihpooeombaaDoorW.PrintMore Go.Proofs.YtbnoihpooeombaaDoor.P
set_option linter.unusedVariables false
set_option linter.unusedSimpArgs false
theorem ev_all {α : Type} (f : Nat → α → Option α) (g : α → α) : ∀ l : List α, (∀ x ∈ l, Ev (fun k => f k x) (g x)) → ∃ K, ∀ k, K ≤ k → ∀ x ∈ l, f k x = some (g x)
  | [], _ => ⟨0, fun _ _ x hx => by cases hx⟩
  | a :: l, h => by
    obtain ⟨K1, h1⟩ := h a List.mem_cons_self
    obtain ⟨K2, h2⟩ := ev_all f g l (fun x hx => h x (List.mem_cons_of_mem _ hx))
    refine ⟨K1 + K2, fun k hk x hx => ?_⟩
    rcases List.mem_cons.1 hx with rfl | hx
    · exact h1 k (by omega)
    · exact h2 k (by omega) x hx
end Go.Proofs.YtbnoihpooeombaaDoor.X

namespace Go.Proofs.YtbnoihpooeombaaDoor.X
open Go.RowKit Go.Proofs.YtbnoihpooeombaaDoorW.PrintWords Go.Proofs.YtbnoihpooeombaaDoorW.PrintLast Go.Proofs.YtbnoihpooeombaaDoorW.PrintMore Go.Proofs.YtbnoihpooeombaaDoor.P
set_option linter.unusedVariables false
set_option linter.unusedSimpArgs false
def Apart2 (v u : Value) : Prop := ∀ k, u.ownBlock = some k → v.ownBlock ≠ some k
theorem Apart2.put_left {w : World} {base sb t : Nat} {v v' u : Value} {L : List S68} (h : Apart2 v u) (hu : qAf w t base sb u L) (hv : v'.ownBlock = v.ownBlock ∨ ∃ b, v'.ownBlock = some b ∧ w.heap.size ≤ b) : Apart2 v' u := by
  intro k hk e
  rcases hv with hv | ⟨b, hv, hb⟩
  · exact h k hk (hv ▸ e)
  · have := own_lt hu.row k hk
    rw [hv] at e
    injection e with e
    omega
theorem Apart2.put_right {w : World} {base sb t : Nat} {v u u' : Value} {L : List S68} (h : Apart2 v u) (hv : qAf w t base sb v L) (hu : u'.ownBlock = u.ownBlock ∨ ∃ b, u'.ownBlock = some b ∧ w.heap.size ≤ b) : Apart2 v u' := by
  intro k hk e
  rcases hu with hu | ⟨b, hu, hb⟩
  · exact h k (hu ▸ hk) e
  · have := own_lt hv.row k e
    rw [hu] at hk
    injection hk with hk
    omega
theorem qAf.step {w w1 : World} {t t' base base' sb sb' : Nat} {v u : Value} {L M : List S68} (hu : qAf w t base sb u L) (hv : qAf w t' base' sb' v M) (ht : sb ≠ sb') (h68 : 68 ≠ t) (h68' : 68 ≠ t') (ha : Apart2 v u) (hs : StepB w w1 sb' v.ownBlock) : qAf w1 t base sb u L :=
  hu.keep (hs.block sb (blk_lt hu.cell) ht (own_ne hv.row hu.cell h68)) (fun k hk => hs.block k (own_lt hu.row k hk) (fun e => by
    subst e
    exact own_ne hu.row hv.cell h68' hk.symm) (fun e => ha k hk e.symm))
end Go.Proofs.YtbnoihpooeombaaDoor.X

namespace Go.Proofs.YtbnoihpooeombaaDoor.X
open Go.RowKit Go.Proofs.YtbnoihpooeombaaDoorW.PrintWords Go.Proofs.YtbnoihpooeombaaDoorW.PrintLast Go.Proofs.YtbnoihpooeombaaDoorW.PrintMore Go.Proofs.YtbnoihpooeombaaDoor.P
set_option linter.unusedVariables false
def OwnT (ts : List ByteArray) (L : List S68) : Prop := ∀ x ∈ L, x.f0 = digD x.f1 ∧ x.f1 ∈ ts
def InjT (ts : List ByteArray) : Prop := ∀ s ∈ ts, ∀ t ∈ ts, digD s = digD t → s = t
theorem qDv {ts : List ByteArray} {L : List S68} {t : ByteArray} (hI : InjT ts) (ho : OwnT ts L) (ht : t ∈ ts) (hr : qAe (dgs L) = true) (h : isK (dgs L) (digD t) = true) : (⟨digD t, t⟩ : S68) ∈ L := by
  have := (qBk _ _ hr).1 h
  obtain ⟨x, hx, he⟩ := List.mem_map.1 this
  obtain ⟨h1, h2⟩ := ho x hx
  have e := hI x.f1 h2 t ht (by rw [← h1]; exact he)
  subst e
  have he : x.f0 = digD x.f1 := h1
  rw [← he]
  exact hx
theorem qAy {ts : List ByteArray} {L : List S68} {t : ByteArray} (hI : InjT ts) (ho : OwnT ts L) (ht : t ∈ ts) (hr : qAe (dgs L) = true) (x : S68) : x ∈ putL L (digD t) t ↔ x = ⟨digD t, t⟩ ∨ x ∈ L := by
  unfold putL
  by_cases h : isK (dgs L) (digD t) = true
  · rw [if_pos h]
    exact ⟨.inr, fun hx => hx.elim (fun e => e ▸ qDv hI ho ht hr h) id⟩
  · rw [if_neg h, List.mem_append, List.mem_cons]
    constructor
    · rintro (hx | hx | hx)
      · exact .inr (List.mem_of_mem_take hx)
      · exact .inl hx
      · exact .inr (List.mem_of_mem_drop hx)
    · rintro (hx | hx)
      · exact .inr (.inl hx)
      · rw [← List.take_append_drop (posK (dgs L) (digD t)) L, List.mem_append] at hx
        exact hx.elim .inl (fun h => .inr (.inr h))
theorem qBs {ts : List ByteArray} {L : List S68} {t : ByteArray} (hI : InjT ts) (ho : OwnT ts L) (ht : t ∈ ts) (hr : qAe (dgs L) = true) : OwnT ts (putL L (digD t) t) := fun x hx => by
  rcases (qAy hI ho ht hr x).1 hx with rfl | hx
  · exact ⟨rfl, ht⟩
  · exact ho x hx
theorem at_isK {ts : List ByteArray} {L : List S68} {t : ByteArray} (hI : InjT ts) (ho : OwnT ts L) (ht : t ∈ ts) (h : isK (dgs L) (digD t) = true) : (rd_T68 L (posK (dgs L) (digD t) : Nat)).f1 = t := by
  obtain ⟨h1, h2⟩ := isK_lt h
  have h3 := h2 h1
  have hlt : posK (dgs L) (digD t) < L.length := by rw [qAx] at h1; exact h1
  rw [qBw _ _ hlt]
  rw [qCu _ _ hlt] at h3
  obtain ⟨e1, e2⟩ := ho _ (List.getElem_mem hlt)
  exact hI _ e2 t ht (by rw [← e1]; exact h3)
theorem qBx {ts : List ByteArray} {L : List S68} {t : ByteArray} (hI : InjT ts) (ho : OwnT ts L) (ht : t ∈ ts) : (putR L (digD t) t).2 = 0 := by
  unfold putR
  rw [if_neg]
  rintro ⟨h, hne⟩
  exact hne (at_isK hI ho ht h)
theorem qEl {ts : List ByteArray} {L : List S68} {t : ByteArray} (hI : InjT ts) (ho : OwnT ts L) (ht : t ∈ ts) (hr : qAe (dgs L) = true) (hm : (⟨digD t, t⟩ : S68) ∈ L) : getB L (digD t) = (t, true) := by
  have h : isK (dgs L) (digD t) = true := (qBk _ _ hr).2 (List.mem_map.2 ⟨_, hm, rfl⟩)
  unfold getB
  rw [if_pos h, at_isK hI ho ht h]
theorem qD5 {ts : List ByteArray} {L : List S68} (ho : OwnT ts L) (hr : qAe (dgs L) = true) : loadQ digD L = .inl L := by
  unfold loadQ
  rw [if_neg]
  · exact qB0 digD L [] hr (fun x hx => (ho x hx).1)
  · rw [Bool.not_eq_true, List.any_eq_false]
    intro x hx
    unfold badB
    rw [← (ho x hx).1]
    simp
theorem qCe : ∀ (A B : List S68), qAe (dgs A) = true → qAe (dgs B) = true → (∀ x, x ∈ A ↔ x ∈ B) → A = B
  | [], [], _, _, _ => rfl
  | [], b :: B, _, _, h => by have := (h b).2 List.mem_cons_self; cases this
  | a :: A, [], _, _, h => by have := (h a).1 List.mem_cons_self; cases this
  | a :: A, b :: B, ha, hb, h => by
    obtain ⟨ha1, ha2⟩ := qAn (show qAe (a.f0 :: dgs A) = true from ha)
    obtain ⟨hb1, hb2⟩ := qAn (show qAe (b.f0 :: dgs B) = true from hb)
    have la : ∀ x ∈ A, lessB a.f0 x.f0 = true := fun x hx => ha2 _ (List.mem_map.2 ⟨x, hx, rfl⟩)
    have lb : ∀ x ∈ B, lessB b.f0 x.f0 = true := fun x hx => hb2 _ (List.mem_map.2 ⟨x, hx, rfl⟩)
    have hab : a = b := by
      rcases List.mem_cons.1 ((h a).1 List.mem_cons_self) with e | h1
      · exact e
      · rcases List.mem_cons.1 ((h b).2 List.mem_cons_self) with e | h2
        · exact e.symm
        · have := qA9 (la b h2) (lb a h1)
          rw [qAw] at this
          cases this
    subst hab
    rw [qCe A B ha1 hb1 (fun x => ⟨fun hx => ?_, fun hx => ?_⟩)]
    · rcases List.mem_cons.1 ((h x).1 (List.mem_cons_of_mem _ hx)) with e | h1
      · have := la x hx
        rw [e, qAw] at this
        cases this
      · exact h1
    · rcases List.mem_cons.1 ((h x).2 (List.mem_cons_of_mem _ hx)) with e | h1
      · have := lb x hx
        rw [e, qAw] at this
        cases this
      · exact h1
theorem qEu {ts : List ByteArray} (h : ∀ p q : Nat, p < ts.length → q < p → digD (ts.getD p ⟨#[]⟩) = digD (ts.getD q ⟨#[]⟩) → ts.getD p ⟨#[]⟩ = ts.getD q ⟨#[]⟩) : InjT ts := by
  intro s hs t ht e
  obtain ⟨p, hp, rfl⟩ := List.mem_iff_getElem.1 hs
  obtain ⟨q, hq, rfl⟩ := List.mem_iff_getElem.1 ht
  have ep : ts.getD p ⟨#[]⟩ = ts[p] := by simp [List.getD_eq_getElem?_getD, hp]
  have eq : ts.getD q ⟨#[]⟩ = ts[q] := by simp [List.getD_eq_getElem?_getD, hq]
  rcases Nat.lt_trichotomy p q with h1 | h1 | h1
  · have := h q p hq h1 (by rw [ep, eq]; exact e.symm)
    rw [ep, eq] at this
    exact this.symm
  · subst h1
    rfl
  · have := h p q hp h1 (by rw [ep, eq]; exact e)
    rw [ep, eq] at this
    exact this
theorem qBt {ts : List ByteArray} {p : Nat} (h : p < ts.length) : ts.getD p ⟨#[]⟩ ∈ ts := by
  rw [show ts.getD p ⟨#[]⟩ = ts[p] from by simp [List.getD_eq_getElem?_getD, h]]
  exact List.getElem_mem _
theorem qDt {ts : List ByteArray} {A B : List S68} (hoA : OwnT ts A) (hoB : OwnT ts B) (hrA : qAe (dgs A) = true) (hrB : qAe (dgs B) = true) (kk : Nat) (hk : kk < ts.length)
    (hA : ∀ p : Nat, p < ts.length → (⟨digD (ts.getD p ⟨#[]⟩), ts.getD p ⟨#[]⟩⟩ : S68) ∈ A)
    (hB : ∀ q : Nat, q < ts.length → (⟨digD (ts.getD ((kk + q) % ts.length) ⟨#[]⟩), ts.getD ((kk + q) % ts.length) ⟨#[]⟩⟩ : S68) ∈ B) : A = B := by
  have hB' : ∀ p : Nat, p < ts.length → (⟨digD (ts.getD p ⟨#[]⟩), ts.getD p ⟨#[]⟩⟩ : S68) ∈ B := by
    intro p hp
    rcases Nat.lt_or_ge p kk with h | h
    · have := hB (p + ts.length - kk) (by omega)
      rw [show kk + (p + ts.length - kk) = p + ts.length by omega, Nat.add_mod_right, Nat.mod_eq_of_lt hp] at this
      exact this
    · have := hB (p - kk) (by omega)
      rw [show kk + (p - kk) = p by omega, Nat.mod_eq_of_lt hp] at this
      exact this
  refine qCe A B hrA hrB (fun x => ⟨fun hx => ?_, fun hx => ?_⟩)
  · obtain ⟨h1, h2⟩ := hoA x hx
    obtain ⟨p, hp, e⟩ := List.mem_iff_getElem.1 h2
    have := hB' p hp
    rw [show ts.getD p ⟨#[]⟩ = x.f1 from by rw [← e]; simp [List.getD_eq_getElem?_getD, hp]] at this
    rw [← h1] at this
    exact this
  · obtain ⟨h1, h2⟩ := hoB x hx
    obtain ⟨p, hp, e⟩ := List.mem_iff_getElem.1 h2
    have := hA p hp
    rw [show ts.getD p ⟨#[]⟩ = x.f1 from by rw [← e]; simp [List.getD_eq_getElem?_getD, hp]] at this
    rw [← h1] at this
    exact this
theorem qDp {a b : ByteArray} (h : a.toList = b.toList) : a = b := by
  rw [ByteArray.toList_eq, ByteArray.toList_eq] at h
  cases a
  cases b
  congr 1
  exact Array.toList_inj.1 h
structure OrdInv (ts : List ByteArray) (kk i : Nat) (L M : List S68) : Prop where
  ra : qAe (dgs L) = true
  rb : qAe (dgs M) = true
  oa : OwnT ts L
  ob : OwnT ts M
  ma : ∀ p : Nat, p < i → (⟨digD (ts.getD p ⟨#[]⟩), ts.getD p ⟨#[]⟩⟩ : S68) ∈ L
  mb : ∀ q : Nat, q < i → (⟨digD (ts.getD ((kk + q) % ts.length) ⟨#[]⟩), ts.getD ((kk + q) % ts.length) ⟨#[]⟩⟩ : S68) ∈ M
theorem OrdInv.zero (ts : List ByteArray) (kk : Nat) : OrdInv ts kk 0 [] [] := ⟨rfl, rfl, fun x h => (by cases h), fun x h => (by cases h), fun p h => (by omega), fun q h => (by omega)⟩
theorem OrdInv.step {ts : List ByteArray} {kk i : Nat} {L M : List S68} (h : OrdInv ts kk i L M) (hI : InjT ts) (hi : i < ts.length) (hk : kk < ts.length) {s t u : ByteArray} (es : s = ts.getD i ⟨#[]⟩) (et : t = ts.getD ((kk + i) % ts.length) ⟨#[]⟩) (eu : u = ts.getD kk ⟨#[]⟩) :
    OrdInv ts kk (i + 1) (putL L (digD s) s) (putL (putL M (digD t) t) (digD u) u) := by
  have ms : s ∈ ts := es ▸ qBt hi
  have mt : t ∈ ts := et ▸ qBt (Nat.mod_lt _ (by omega))
  have mu : u ∈ ts := eu ▸ qBt hk
  have r1 := qAv (digD t) t h.rb
  have o1 := qBs hI h.ob mt h.rb
  refine ⟨qAv _ _ h.ra, qAv _ _ r1, qBs hI h.oa ms h.ra, qBs hI o1 mu r1, fun p hp => ?_, fun q hq => ?_⟩
  · rw [qAy hI h.oa ms h.ra]
    rcases Nat.lt_or_ge p i with h1 | h1
    · exact .inr (h.ma p h1)
    · obtain rfl : p = i := by omega
      rw [es]
      exact .inl rfl
  · rw [qAy hI o1 mu r1, qAy hI h.ob mt h.rb]
    rcases Nat.lt_or_ge q i with h1 | h1
    · exact .inr (.inr (h.mb q h1))
    · obtain rfl : q = i := by omega
      rw [et]
      exact .inr (.inl rfl)
theorem OrdInv.same {ts : List ByteArray} {kk : Nat} {L M : List S68} (h : OrdInv ts kk ts.length L M) (hk : kk < ts.length) : L = M := qDt h.oa h.ob h.ra h.rb kk hk h.ma h.mb
theorem OrdInv.zero_a {ts : List ByteArray} {kk i : Nat} {L M : List S68} (h : OrdInv ts kk i L M) (hI : InjT ts) {s : ByteArray} (ms : s ∈ ts) : (putR L (digD s) s).2 = 0 := qBx hI h.oa ms
theorem OrdInv.zero_b {ts : List ByteArray} {kk i : Nat} {L M : List S68} (h : OrdInv ts kk i L M) (hI : InjT ts) {s : ByteArray} (ms : s ∈ ts) : (putR M (digD s) s).2 = 0 := qBx hI h.ob ms
theorem OrdInv.zero_c {ts : List ByteArray} {kk i : Nat} {L M : List S68} (h : OrdInv ts kk i L M) (hI : InjT ts) {s t : ByteArray} (ms : s ∈ ts) (mt : t ∈ ts) : (putR (putL M (digD t) t) (digD s) s).2 = 0 := qBx hI (qBs hI h.ob mt h.rb) ms
theorem OrdInv.got {ts : List ByteArray} {kk : Nat} {L M : List S68} (h : OrdInv ts kk ts.length L M) (hI : InjT ts) {p : Nat} (hp : p < ts.length) {s : ByteArray} (es : s = ts.getD p ⟨#[]⟩) : getB L (digD s) = (s, true) := by
  subst es
  exact qEl hI h.oa (qBt hp) h.ra (h.ma p hp)
theorem OrdInv.loaded {ts : List ByteArray} {kk i : Nat} {L M : List S68} (h : OrdInv ts kk i L M) : loadQ digD L = .inl L := qD5 h.oa h.ra
end Go.Proofs.YtbnoihpooeombaaDoor.X

namespace Go.Proofs.YtbnoihpooeombaaDoor.X
open Go.RowKit Go.Proofs.YtbnoihpooeombaaDoorW.PrintWords Go.Proofs.YtbnoihpooeombaaDoorW.PrintLast Go.Proofs.YtbnoihpooeombaaDoorW.PrintMore Go.Proofs.YtbnoihpooeombaaDoor.P
set_option linter.unusedVariables false
set_option linter.unusedSimpArgs false
theorem qCp (l : List ByteArray) (i : Nat) (h : i < l.length) : rdOf ByteArray.empty l (i : Int) = l.getD i ⟨#[]⟩ ∧ rdOf ByteArray.empty l (i : Int) ∈ l := by
  rw [show rdOf ByteArray.empty l (i : Int) = l[i] from by simp [rdOf, List.getD_eq_getElem?_getD, h]]
  exact ⟨by simp [List.getD_eq_getElem?_getD, h], List.getElem_mem _⟩
def bmQ (n k : Nat) : Array Bool := ((List.range n).map fun i => Nat.testBit k i).toArray
set_option maxHeartbeats 16000000 in
set_option maxRecDepth 100000 in
theorem qA7 (kD : Nat) (A0 : Option Addr) (c0 : Nat) (l0 : List ByteArray) (k : Int) (g : Bool) (w : World) (hT : Aside0 (Tabs w))
    (hr0 : Kd.C Kd.string w A0 l0.length l0) (hc0 : l0.length ≤ c0) (hG : hogsheadlaw0_GreatTexts.f kD l0 12 300 = some g)
    (h1 : sum_Digest.f kD ⟨#[97]⟩ = some digA) (h2 : sum_Digest.f kD ⟨#[]⟩ = some (digD ⟨#[]⟩))
    (hS : g = false → l0.length ≤ 12 ∧ (∀ s ∈ l0, sum_Digest.f kD s = some (digD s))) :
    Calls Tryd.prog 13 #[.slice A0 l0.length c0, .int .i64 k] w fun e w' => e = .returned (.bool true) ∧ Below w.heap.size w w' := by
  have X0 := Aside0.mk hr0
  have HG := Aside0.mk hG
  have H1 := Aside0.mk h1
  have H2 := Aside0.mk h2
  have HS := Aside0.mk hS
  clear hr0 hG h1 h2 hS
  obtain ⟨bo, hbo⟩ : ∃ b, decide ((l0.length : Int) = 0) = b := ⟨_, rfl⟩
  have hbo2 : ((l0.length : Int) == 0) = bo := by rw [← hbo]; rfl
  go_enter Tryd.func13, Tryd.ntmps13
  go_wp2_with fail
  refine (hogsheadlaw0_GreatTexts.calls kD A0 c0 l0 12 300 g w X0.out hc0 HG.out).mono ?_
  rintro e w2 ⟨rfl, hd⟩
  have HB2 := Aside0.mk hd.below
  clear hd HG
  cases hgb : (g || bo) with
  | true =>
    cases g <;> cases bo <;> first
    | (cases hgb; done)
    | (go_wp2_with (go_at_call 33; refine (qA4 kD _ ⟨Tabs.below hT.out HB2.out⟩ H1.out H2.out).mono ?_; rintro e w7 ⟨rfl, hb7⟩; have HB7 := Aside0.mk (qAa HB2.out hb7); clear hb7)
       go_ret
       exact ⟨rfl, HB7.out⟩)
  | false =>
    obtain rfl : g = false := by cases g <;> first | rfl | cases hgb
    obtain rfl : bo = false := by cases bo <;> first | rfl | cases hgb
    clear hgb
    obtain ⟨hn, hDS⟩ := HS.out (by trivial)
    have HDS := Aside0.mk hDS
    clear hDS HS
    have hn1 : 1 ≤ l0.length := by
      have := of_decide_eq_false hbo
      omega
    go_wp2_with fail
    clear hbo hbo2
    go_loopw [5] (fun v5 wr => ∃ (i : Nat), v5 = .int .i64 i ∧ i ≤ l0.length ∧ Aside0 (∀ p q : Nat, p < i → q < p → digD (l0.getD p ⟨#[]⟩) = digD (l0.getD q ⟨#[]⟩) → l0.getD p ⟨#[]⟩ = l0.getD q ⟨#[]⟩) ∧ Aside0 (Below w.heap.size w wr)) (fun a _ => l0.length - (intOf a).toNat)
    case atStart => exact ⟨0, rfl, by omega, ⟨fun p q h => by omega⟩, HB2⟩
    case round =>
      clear HB2
      obtain ⟨i, rfl, hi, HI, HB⟩ := hrel
      by_cases hil : i < l0.length
      · have hic : decide ((i : Int) < (l0.length : Int)) = true := by simp; omega
        go_wp2_with fail
        go_loopw [6] (fun v6 wr' => ∃ (j : Nat), v6 = .int .i64 j ∧ j ≤ i ∧ Aside0 (∀ q : Nat, q < j → digD (l0.getD i ⟨#[]⟩) = digD (l0.getD q ⟨#[]⟩) → l0.getD i ⟨#[]⟩ = l0.getD q ⟨#[]⟩) ∧ Aside0 (Below w.heap.size w wr')) (fun a _ => i - (intOf a).toNat)
        case atStart => exact ⟨0, rfl, by omega, ⟨fun q h => by omega⟩, HB⟩
        case round =>
          clear HB
          obtain ⟨j, rfl, hj, HJ, HB⟩ := hrel
          by_cases hji : j < i
          · have hjc : decide ((j : Int) < (i : Int)) = true := by simp; omega
            obtain ⟨ad, rfl, hq0⟩ := Kd.at_string X0.out (i : Int) (by omega) (by omega)
            obtain ⟨ad2, e2, hq1⟩ := Kd.at_string X0.out (j : Int) (by omega) (by omega)
            injection e2 with e2
            subst e2
            simp only [Int.toNat_natCast] at hq0 hq1
            have hk0 := qAb HB.out hq0
            have hk1 := qAb HB.out hq1
            have HK0 := Aside0.mk hq0
            have HK1 := Aside0.mk hq1
            clear hq0 hq1
            have HSi := Aside0.mk (show rdOf ByteArray.empty l0 (i : Int) = l0.getD i ⟨#[]⟩ ∧ rdOf ByteArray.empty l0 (i : Int) ∈ l0 from by
              rw [show rdOf ByteArray.empty l0 (i : Int) = l0[i] from by simp [rdOf, List.getD_eq_getElem?_getD, hil]]
              exact ⟨by simp [List.getD_eq_getElem?_getD, hil], List.getElem_mem _⟩)
            have hjl : j < l0.length := by omega
            have HSj := Aside0.mk (show rdOf ByteArray.empty l0 (j : Int) = l0.getD j ⟨#[]⟩ ∧ rdOf ByteArray.empty l0 (j : Int) ∈ l0 from by
              rw [show rdOf ByteArray.empty l0 (j : Int) = l0[j] from by simp [rdOf, List.getD_eq_getElem?_getD, hjl]]
              exact ⟨by simp [List.getD_eq_getElem?_getD, hjl], List.getElem_mem _⟩)
            generalize rdOf ByteArray.empty l0 (i : Int) = si at *
            generalize rdOf ByteArray.empty l0 (j : Int) = sj at *
            have hjc2 : decide ((j : Int) < (l0.length : Int)) = true := by simp; omega
            have hj0 : 0 ≤ (j : Int) := by omega
            have hi0 : 0 ≤ (i : Int) := by omega
            have hw := wrap_i j l0.length hjl (by omega)
            obtain ⟨ne, hne⟩ : ∃ b, (si.toList != sj.toList) = b := ⟨_, rfl⟩
            obtain ⟨eq, heq⟩ : ∃ b, ((digD si).toList == (digD sj).toList) = b := ⟨_, rfl⟩
            have hne2 : (si.toList == sj.toList) = !ne := by rw [← hne]; simp [bne]
            have HD1 := Aside0.mk (HDS.out si HSi.out.2)
            have HD2 := Aside0.mk (HDS.out sj HSj.out.2)
            have HDg := Aside0.mk (show digD si = digD sj → ((digD si).toList == (digD sj).toList) = true from fun h => by rw [h]; simp)
            rw [heq] at HDg
            generalize hdi : digD si = di at *
            generalize hdj : digD sj = dj at *
            have HDI := Aside0.mk hdi
            have HDJ := Aside0.mk hdj
            clear hdi hdj
            cases ne with
            | false =>
              go_wp2_with fail
              go_quiet (fail)
              go_wp2_with fail
              refine ⟨⟨j + 1, by simp, by omega, ⟨fun q hq e => ?_⟩, ⟨qAh HB.out _⟩⟩, by simp [intOf]; omega⟩
              rcases Nat.lt_or_ge q j with h | h
              · exact HJ.out q h e
              · obtain rfl : q = j := by omega
                rw [← HSi.out.1, ← HSj.out.1]
                have := (bne_eq_false_iff_eq.1 hne)
                exact qDp this
            | true =>
              go_wp2_with fail
              refine start_ (n := 22) (S := fun w' => Below w.heap.size w w') (ds := []) (bmQ 22 0) (by kernel_rfl) rfl (by kernel_rfl) (qAg HB.out) (fun hS => ?_)
              generalize wr.drew = wd at hS ⊢
              refine pure_ (i := 0) (N := some 40) (v := ?_) (a' := ?_) (bmQ 22 1) rfl rfl (by kernel_rfl) (fun _ _ _ h => h) (Or.inl ⟨by rfl, ?_⟩) ?_ ?_
              rotate_left
              · intro w'
                go_simp
                (try simp only [hne])
                with_reducible rfl
              rotate_left
              · simp only [Act.put, List.setIfInBounds_toArray, List.set_cons_zero, List.set_cons_succ, i64_w, i32_w]
                rfl
              refine pure_ (i := 1) (N := some 41) (v := ?_) (a' := ?_) (bmQ 22 3) rfl rfl (by kernel_rfl) (fun _ _ _ h => h) (Or.inl ⟨by rfl, ?_⟩) ?_ ?_
              rotate_left
              · intro w'
                go_simp
                (try simp only [hne])
                with_reducible rfl
              rotate_left
              · simp only [Act.put, List.setIfInBounds_toArray, List.set_cons_zero, List.set_cons_succ, i64_w, i32_w]
                rfl
              refine pure_ (i := 2) (N := some 42) (v := ?_) (a' := ?_) (bmQ 22 7) rfl rfl (by kernel_rfl) (fun _ _ _ h => h) (Or.inl ⟨by rfl, ?_⟩) ?_ ?_
              rotate_left
              · intro w'
                go_simp
                (try simp only [hne])
                with_reducible rfl
              rotate_left
              · simp only [Act.put, List.setIfInBounds_toArray, List.set_cons_zero, List.set_cons_succ, i64_w, i32_w]
                rfl
              refine take_ (i := 3) (N := some 43) (v := ?_) (a' := ?_) (bmQ 22 15) rfl rfl (by kernel_rfl) (fun _ _ _ h => h) (Or.inl ⟨by rfl, ?_⟩) hS ?_ ?_
              rotate_left
              · intro w' hS
                have s0 := qAb hS HK0.out
                have s1 := qAb hS HK1.out
                go_simp
                with_reducible rfl
              rotate_left
              · simp only [Act.put, List.setIfInBounds_toArray, List.set_cons_zero, List.set_cons_succ, i64_w, i32_w]
                rfl
              refine pure_ (i := 4) (N := some 44) (v := ?_) (a' := ?_) (bmQ 22 31) rfl rfl (by kernel_rfl) (fun _ _ _ h => h) (Or.inl ⟨by rfl, ?_⟩) ?_ ?_
              rotate_left
              · intro w'
                go_simp
                (try simp only [hne])
                with_reducible rfl
              rotate_left
              · simp only [Act.put, List.setIfInBounds_toArray, List.set_cons_zero, List.set_cons_succ, i64_w, i32_w]
                rfl
              refine pure_ (i := 5) (N := some 45) (v := ?_) (a' := ?_) (bmQ 22 63) rfl rfl (by kernel_rfl) (fun _ _ _ h => h) (Or.inl ⟨by rfl, ?_⟩) ?_ ?_
              rotate_left
              · intro w'
                go_simp
                (try simp only [hne])
                with_reducible rfl
              rotate_left
              · simp only [Act.put, List.setIfInBounds_toArray, List.set_cons_zero, List.set_cons_succ, i64_w, i32_w]
                rfl
              refine pure_ (i := 6) (N := some 46) (v := ?_) (a' := ?_) (bmQ 22 127) rfl rfl (by kernel_rfl) (fun _ _ _ h => h) (Or.inl ⟨by rfl, ?_⟩) ?_ ?_
              rotate_left
              · intro w'
                go_simp
                (try simp only [hne])
                with_reducible rfl
              rotate_left
              · simp only [Act.put, List.setIfInBounds_toArray, List.set_cons_zero, List.set_cons_succ, i64_w, i32_w]
                rfl
              refine take_ (i := 7) (N := some 47) (v := ?_) (a' := ?_) (bmQ 22 255) rfl rfl (by kernel_rfl) (fun _ _ _ h => h) (Or.inl ⟨by rfl, ?_⟩) hS ?_ ?_
              rotate_left
              · intro w' hS
                have s0 := qAb hS HK0.out
                have s1 := qAb hS HK1.out
                go_simp
                with_reducible rfl
              rotate_left
              · simp only [Act.put, List.setIfInBounds_toArray, List.set_cons_zero, List.set_cons_succ, i64_w, i32_w]
                rfl
              refine pure_ (i := 8) (N := some 48) (v := .bool true) (a' := ?_) (bmQ 22 511) rfl rfl (by kernel_rfl) (fun _ _ _ h => h) (Or.inl ⟨by rfl, ?_⟩) ?_ ?_
              · intro w'
                go_simp
                (try simp only [hne])
                (try rfl)
              rotate_left
              · simp only [Act.put, List.setIfInBounds_toArray, List.set_cons_zero, List.set_cons_succ, i64_w, i32_w]
                rfl
              refine pure_ (i := 9) (N := some 49) (v := ?_) (a' := ?_) (bmQ 22 1023) rfl rfl (by kernel_rfl) (fun _ _ _ h => h) (Or.inl ⟨by rfl, ?_⟩) ?_ ?_
              rotate_left
              · intro w'
                go_simp
                (try simp only [hne])
                with_reducible rfl
              rotate_left
              · simp only [Act.put, List.setIfInBounds_toArray, List.set_cons_zero, List.set_cons_succ, i64_w, i32_w]
                rfl
              refine pure_ (i := 10) (N := some 50) (v := ?_) (a' := ?_) (bmQ 22 2047) rfl rfl (by kernel_rfl) (fun _ _ _ h => h) (Or.inl ⟨by rfl, ?_⟩) ?_ ?_
              rotate_left
              · intro w'
                go_simp
                (try simp only [hne])
                with_reducible rfl
              rotate_left
              · simp only [Act.put, List.setIfInBounds_toArray, List.set_cons_zero, List.set_cons_succ, i64_w, i32_w]
                rfl
              refine pure_ (i := 11) (N := some 51) (v := ?_) (a' := ?_) (bmQ 22 4095) rfl rfl (by kernel_rfl) (fun _ _ _ h => h) (Or.inl ⟨by rfl, ?_⟩) ?_ ?_
              rotate_left
              · intro w'
                go_simp
                (try simp only [hne])
                with_reducible rfl
              rotate_left
              · simp only [Act.put, List.setIfInBounds_toArray, List.set_cons_zero, List.set_cons_succ, i64_w, i32_w]
                rfl
              refine pure_ (i := 12) (N := some 52) (v := ?_) (a' := ?_) (bmQ 22 8191) rfl rfl (by kernel_rfl) (fun _ _ _ h => h) (Or.inl ⟨by rfl, ?_⟩) ?_ ?_
              rotate_left
              · intro w'
                go_simp
                (try simp only [hne])
                with_reducible rfl
              rotate_left
              · simp only [Act.put, List.setIfInBounds_toArray, List.set_cons_zero, List.set_cons_succ, i64_w, i32_w]
                rfl
              refine take_ (i := 13) (N := some 53) (v := ?_) (a' := ?_) (bmQ 22 16383) rfl rfl (by kernel_rfl) (fun _ _ _ h => h) (Or.inl ⟨by rfl, ?_⟩) hS ?_ ?_
              rotate_left
              · intro w' hS
                have s0 := qAb hS HK0.out
                have s1 := qAb hS HK1.out
                go_simp
                with_reducible rfl
              rotate_left
              · simp only [Act.put, List.setIfInBounds_toArray, List.set_cons_zero, List.set_cons_succ, i64_w, i32_w]
                rfl
              refine pure_ (i := 15) (N := some 55) (v := ?_) (a' := ?_) (bmQ 22 49151) rfl rfl (by kernel_rfl) (fun _ _ _ h => h) (Or.inl ⟨by rfl, ?_⟩) ?_ ?_
              rotate_left
              · intro w'
                go_simp
                (try simp only [hne])
                with_reducible rfl
              rotate_left
              · simp only [Act.put, List.setIfInBounds_toArray, List.set_cons_zero, List.set_cons_succ, i64_w, i32_w]
                rfl
              refine pure_ (i := 16) (N := some 56) (v := ?_) (a' := ?_) (bmQ 22 114687) rfl rfl (by kernel_rfl) (fun _ _ _ h => h) (Or.inl ⟨by rfl, ?_⟩) ?_ ?_
              rotate_left
              · intro w'
                go_simp
                (try simp only [hne])
                with_reducible rfl
              rotate_left
              · simp only [Act.put, List.setIfInBounds_toArray, List.set_cons_zero, List.set_cons_succ, i64_w, i32_w]
                rfl
              refine pure_ (i := 17) (N := some 57) (v := ?_) (a' := ?_) (bmQ 22 245759) rfl rfl (by kernel_rfl) (fun _ _ _ h => h) (Or.inl ⟨by rfl, ?_⟩) ?_ ?_
              rotate_left
              · intro w'
                go_simp
                (try simp only [hne])
                with_reducible rfl
              rotate_left
              · simp only [Act.put, List.setIfInBounds_toArray, List.set_cons_zero, List.set_cons_succ, i64_w, i32_w]
                rfl
              refine take_ (i := 18) (N := some 58) (v := ?_) (a' := ?_) (bmQ 22 507903) rfl rfl (by kernel_rfl) (fun _ _ _ h => h) (Or.inl ⟨by rfl, ?_⟩) hS ?_ ?_
              rotate_left
              · intro w' hS
                have s0 := qAb hS HK0.out
                have s1 := qAb hS HK1.out
                go_simp
                with_reducible rfl
              rotate_left
              · simp only [Act.put, List.setIfInBounds_toArray, List.set_cons_zero, List.set_cons_succ, i64_w, i32_w]
                rfl
              refine one_ (i := 14) (N := some 54) (bmQ 22 524287) rfl rfl (by kernel_rfl) (by decide) (fun Kz hKz => ?_)
              refine goes_ Tryd.func43 (by kernel_rfl) rfl #[.string si] (by rfl) rfl rfl (by (try simp only [List.map_toArray, List.map_cons, List.map_nil]); first | done | rfl) ?_
              refine (sum_Digest.calls kD si di _ ⟨Tabs.below hT.out hS⟩ HD1.out).mono ?_
              rintro e wc ⟨rfl, hb⟩
              refine ⟨_, rfl, ?_⟩
              refine hKz.out _ _ (qAa hS hb) (fun hS => ?_)
              clear hKz Kz
              refine norm_ (a' := ?_) ?_ ?_
              rotate_left
              · show Act.put _ (some 54) _ = _
                simp only [Act.put, List.setIfInBounds_toArray, List.set_cons_zero, List.set_cons_succ, i64_w, i32_w]
                rfl
              refine one_ (i := 19) (N := some 59) (bmQ 22 1048575) rfl rfl (by kernel_rfl) (by decide) (fun Kz hKz => ?_)
              refine goes_ Tryd.func43 (by kernel_rfl) rfl #[.string sj] (by rfl) rfl rfl (by (try simp only [List.map_toArray, List.map_cons, List.map_nil]); first | done | rfl) ?_
              refine (sum_Digest.calls kD sj dj _ ⟨Tabs.below hT.out hS⟩ HD2.out).mono ?_
              rintro e wc ⟨rfl, hb⟩
              refine ⟨_, rfl, ?_⟩
              refine hKz.out _ _ (qAa hS hb) (fun hS => ?_)
              clear hKz Kz
              refine norm_ (a' := ?_) ?_ ?_
              rotate_left
              · show Act.put _ (some 59) _ = _
                simp only [Act.put, List.setIfInBounds_toArray, List.set_cons_zero, List.set_cons_succ, i64_w, i32_w]
                rfl
              refine pure_ (i := 20) (N := some 60) (v := .bool eq) (a' := ?_) (bmQ 22 2097151) rfl rfl (by kernel_rfl) (fun _ _ _ h => h) (Or.inl ⟨by rfl, ?_⟩) ?_ ?_
              · intro w'
                go_simp
                (try simp only [hne])
                (try rfl)
              rotate_left
              · simp only [Act.put, List.setIfInBounds_toArray, List.set_cons_zero, List.set_cons_succ, i64_w, i32_w]
                rfl
              refine pure_ (i := 21) (N := some 61) (v := ?_) (a' := ?_) (bmQ 22 4194303) rfl rfl (by kernel_rfl) (fun _ _ _ h => h) (Or.inl ⟨by rfl, ?_⟩) ?_ ?_
              rotate_left
              · intro w'
                go_simp
                (try simp only [hne])
                with_reducible rfl
              rotate_left
              · simp only [Act.put, List.setIfInBounds_toArray, List.set_cons_zero, List.set_cons_succ, i64_w, i32_w]
                rfl
              refine done_ (by kernel_rfl) ?_
              have HBN := Aside0.mk hS
              clear HB
              cases eq with
              | true =>
                go_wp2_with (go_at_call 33; refine (qA4 kD _ ⟨Tabs.below hT.out HBN.out⟩ H1.out H2.out).mono ?_; rintro e w7 ⟨rfl, hb7⟩; have HB7 := Aside0.mk (qAa HBN.out hb7); clear hb7)
                go_ret
                exact ⟨rfl, HB7.out⟩
              | false =>
                go_wp2_with fail
                refine ⟨⟨j + 1, by simp, by omega, ⟨fun q hq e => ?_⟩, HBN⟩, by simp [intOf]; omega⟩
                rcases Nat.lt_or_ge q j with h | h
                · exact HJ.out q h e
                · obtain rfl : q = j := by omega
                  rw [← HSi.out.1, ← HSj.out.1, HDI.out, HDJ.out] at e
                  exact absurd (HDg.out e) (by simp)
          · have hjc : decide ((j : Int) < (i : Int)) = false := by simp; omega
            obtain rfl : j = i := by omega
            have hw := wrap_i j l0.length hil (by omega)
            go_wp2_with fail
            refine ⟨⟨j + 1, by simp, by omega, ⟨fun p q hp hq e => ?_⟩, HB⟩, by simp [intOf]; omega⟩
            rcases Nat.lt_or_ge p j with h | h
            · exact HI.out p q h hq e
            · obtain rfl : p = j := by omega
              exact HJ.out q hq e
      · have hic : decide ((i : Int) < (l0.length : Int)) = false := by simp; omega
        obtain rfl : i = l0.length := by omega
        have HJT := Aside0.mk (qEu HI.out)
        clear HI hi hil
        go_wp2_with fail
        refine (qBi wr).mono ?_
        rintro e w3 ⟨rfl, hs3, hb3⟩
        have hsa : w.heap.size ≤ wr.heap.size := HB.out.size
        have HB3 := Aside0.mk (qAa HB.out hb3)
        have HA3 := Aside0.mk (hs3.lower hsa)
        have hlt := blk_lt hs3.cell
        clear hs3 hb3 HB
        go_wp2_with fail
        refine (qBi w3).mono ?_
        rintro e w4 ⟨rfl, hs4, hb4⟩
        have HB4 := Aside0.mk (qAa HB3.out hb4)
        have HA4 := Aside0.mk (HA3.out.below hb4)
        have HS4 := Aside0.mk (hs4.lower (Nat.le_trans hsa (Nat.le_of_lt hlt)))
        have HP4 := Aside0.mk (show Apart2 (.slice none 0 0) (.slice none 0 0) from fun k hk => by cases hk)
        generalize wr.heap.size = sa at *
        generalize w3.heap.size = sb at *
        have hne : sa ≠ sb := by omega
        have hsb : w.heap.size ≤ sb := by omega
        clear hs4 hb4 HB3 HA3 hlt
        go_wp2_with fail
        obtain ⟨kk, hkk, hkl⟩ := qD4 k (l0.length : Int) (by omega) (by omega)
        refine (hogsheadlaw0_Low.calls k (l0.length : Int) kk _ hkk).mono ?_
        rintro e w5 ⟨rfl, hd5⟩
        have HB5 := Aside0.mk (qAa HB4.out hd5.below)
        have HA5 := Aside0.mk (HA4.out.below hd5.below)
        have HS5 := Aside0.mk (HS4.out.below hd5.below)
        clear hd5 hkk HB4 HA4 HS4
        have hkl : kk < l0.length := by omega
        go_wp2_with fail
        go_loopw [9] (fun v9 wr => ∃ (i : Nat) (va vb : Value) (L M : List S68), v9 = .int .i64 i ∧ i ≤ l0.length ∧ L.length ≤ i ∧ M.length ≤ 2 * i ∧ Aside0 (OrdInv l0 kk i L M) ∧ Aside0 (qAf wr 91 w.heap.size sa va L) ∧ Aside0 (qAf wr 91 w.heap.size sb vb M) ∧ Aside0 (Apart2 va vb) ∧ Aside0 (Below w.heap.size w wr)) (fun a _ => l0.length - (intOf a).toNat)
        case atStart => exact ⟨0, _, _, [], [], rfl, by omega, by simp, by simp, ⟨OrdInv.zero _ _⟩, HA5, HS5, HP4, HB5⟩
        case round =>
          clear HA5 HS5 HP4 HB5
          obtain ⟨i, va, vb, L, M, rfl, hi, hL, hM, HO, HA, HS, HP, HB⟩ := hrel
          by_cases hil : i < l0.length
          · have hic : decide ((i : Int) < (l0.length : Int)) = true := by simp; omega
            have hi0 : 0 ≤ (i : Int) := by omega
            have hm1 : (kk + i) % l0.length < l0.length := Nat.mod_lt _ (by omega)
            have hn0 : ((l0.length : Int) == 0) = false := beq_eq_false_iff_ne.2 (by omega)
            have hnd : decide ((l0.length : Int) = 0) = false := decide_eq_false (by omega)
            have hnn : (l0.length : Int) ≠ 0 := by omega
            obtain ⟨ad, rfl, hq0⟩ := Kd.at_string X0.out (i : Int) hi0 (by omega)
            have hmc : (((kk + i) % l0.length : Nat) : Int) = ((kk : Int) + (i : Int)) % (l0.length : Int) := by rw [Int.natCast_emod, Int.natCast_add]
            have hm2 : 0 ≤ ((kk : Int) + (i : Int)) % (l0.length : Int) := by rw [← hmc]; exact Int.natCast_nonneg _
            have hm3 : ((kk : Int) + (i : Int)) % (l0.length : Int) < (l0.length : Int) := by rw [← hmc]; exact Int.ofNat_lt.2 hm1
            obtain ⟨ad2, e2, hq1⟩ := Kd.at_string X0.out (((kk : Int) + (i : Int)) % (l0.length : Int)) hm2 hm3
            injection e2 with e2
            subst e2
            obtain ⟨ad3, e3, hq2⟩ := Kd.at_string X0.out (kk : Int) (by omega) (by omega)
            injection e3 with e3
            subst e3
            rw [show (((kk : Int) + (i : Int)) % (l0.length : Int)).toNat = (kk + i) % l0.length from by rw [← hmc]; exact Int.toNat_natCast _] at hq1
            simp only [Int.toNat_natCast] at hq0 hq2
            have HK0 := Aside0.mk hq0
            have HK1 := Aside0.mk hq1
            have HK2 := Aside0.mk hq2
            clear hq0 hq1 hq2
            have HM0 := Aside0.mk (qCp l0 i hil)
            have HM1 := Aside0.mk (qCp l0 ((kk + i) % l0.length) hm1)
            rw [hmc] at HM1
            clear hmc
            have HM2 := Aside0.mk (qCp l0 kk hkl)
            generalize rdOf ByteArray.empty l0 (i : Int) = s at *
            generalize rdOf ByteArray.empty l0 (((kk : Int) + (i : Int)) % (l0.length : Int)) = t at *
            generalize rdOf ByteArray.empty l0 (kk : Int) = u at *
            have HOs := Aside0.mk (HO.out.step HJT.out hil hkl HM0.out.1 HM1.out.1 HM2.out.1)
            have HZ0 := Aside0.mk (HO.out.zero_a HJT.out HM0.out.2)
            have HZ1 := Aside0.mk (HO.out.zero_b HJT.out HM1.out.2)
            have HZ2 := Aside0.mk (HO.out.zero_c HJT.out HM2.out.2 HM1.out.2)
            have hki0 : 0 ≤ (kk : Int) := by omega
            have hkic : decide ((kk : Int) < (l0.length : Int)) = true := by simp; omega
            have hkey := qAb HB.out HK0.out
            go_wp2_with fail
            refine (qA1 kD w.heap.size sa va L s (digD s) wr ⟨Tabs.below hT.out HB.out⟩ HA.out HO.out.ra (by omega) (HDS.out s HM0.out.2) (qAu HB.out)).mono ?_
            rintro e w6 ⟨rfl, va', ha6, hv6, hst6⟩
            have HB6 := Aside0.mk (qAo HB.out hst6 hsa (fun k hk => qA8 HA.out.row k hk))
            have HS6 := Aside0.mk (HS.out.step HA.out (fun e => hne e.symm) (by decide) (by decide) HP.out hst6)
            have HP6 := Aside0.mk (HP.out.put_left HS.out hv6)
            have HA6 := Aside0.mk ha6
            clear hkey hst6 hv6 ha6 HA HS HP HB
            have hzr0 : ((putR L (digD s) s).2 != 0) = false := by rw [HZ0.out]; rfl
            clear HZ0
            generalize (putR L (digD s) s).1 = r0 at *
            generalize (putR L (digD s) s).2 = zr0 at *
            have hkey := qAb HB6.out HK1.out
            go_wp2_with fail
            refine (qA1 kD w.heap.size sb vb M t (digD t) w6 ⟨Tabs.below hT.out HB6.out⟩ HS6.out HO.out.rb (by omega) (HDS.out t HM1.out.2) (qAu HB6.out)).mono ?_
            rintro e w7 ⟨rfl, vb', hs7, hv7, hst7⟩
            have HB7 := Aside0.mk (qAo HB6.out hst7 hsb (fun k hk => qA8 HS6.out.row k hk))
            have HA7 := Aside0.mk (HA6.out.step HS6.out hne (by decide) (by decide) (fun k hk e => HP6.out k e hk) hst7)
            have HP7 := Aside0.mk (HP6.out.put_right HA6.out hv7)
            have HS7 := Aside0.mk hs7
            have HR7 := Aside0.mk (qAv (digD t) t HO.out.rb)
            have hL7 : (putL L (digD s) s).length ≤ i + 1 := by
              have := qBq L (digD s) s
              omega
            have hM7 : (putL M (digD t) t).length ≤ 2 * i + 1 := by
              have := qBq M (digD t) t
              omega
            have hM8 : (putL (putL M (digD t) t) (digD u) u).length ≤ 2 * (i + 1) := by
              have := qBq (putL M (digD t) t) (digD u) u
              omega
            clear hkey hs7 hv7 hst7 HS6 HA6 HP6 HB6
            have hzr1 : ((putR M (digD t) t).2 != 0) = false := by rw [HZ1.out]; rfl
            clear HZ1
            generalize (putR M (digD t) t).1 = r1 at *
            generalize (putR M (digD t) t).2 = zr1 at *
            have hkey := qAb HB7.out HK2.out
            go_wp2_with fail
            refine (qA1 kD w.heap.size sb vb' (putL M (digD t) t) u (digD u) w7 ⟨Tabs.below hT.out HB7.out⟩ HS7.out HR7.out (by omega) (HDS.out u HM2.out.2) (qAu HB7.out)).mono ?_
            rintro e w8 ⟨rfl, vb8, hs8, hv8, hst8⟩
            have HB8 := Aside0.mk (qAo HB7.out hst8 hsb (fun k hk => qA8 HS7.out.row k hk))
            have HA8 := Aside0.mk (HA7.out.step HS7.out hne (by decide) (by decide) (fun k hk e => HP7.out k e hk) hst8)
            have HP8 := Aside0.mk (HP7.out.put_right HA7.out hv8)
            have HS8 := Aside0.mk hs8
            clear hkey hs8 hv8 hst8 HS7 HA7 HP7 HB7 HR7
            have hzr2 : ((putR (putL M (digD t) t) (digD u) u).2 != 0) = false := by rw [HZ2.out]; rfl
            clear HZ2
            generalize (putR (putL M (digD t) t) (digD u) u).1 = r2 at *
            generalize (putR (putL M (digD t) t) (digD u) u).2 = zr2 at *
            clear HO
            generalize putL (putL M (digD t) t) (digD u) u = M8 at *
            generalize putL L (digD s) s = L8 at *
            clear hm1 hm2 hm3 hn0 hnd hnn HM0 HM1 HM2 HK0 HK1 HK2
            go_wp2_with fail
            exact ⟨⟨i + 1, _, _, L8, M8, by simp, by omega, hL7, hM8, HOs, HA8, HS8, HP8, HB8⟩, by simp [intOf]; omega⟩
          · have hic : decide ((i : Int) < (l0.length : Int)) = false := by simp; omega
            obtain rfl : i = l0.length := by omega
            obtain rfl : L = M := HO.out.same hkl
            clear hM hil hi
            go_wp2_with fail
            go_loopw [16] (fun v16 wr => ∃ (i : Nat), v16 = .int .i64 i ∧ i ≤ l0.length ∧ Aside0 (qAf wr 91 w.heap.size sa va L) ∧ Aside0 (qAf wr 91 w.heap.size sb vb L) ∧ Aside0 (Below w.heap.size w wr)) (fun a _ => l0.length - (intOf a).toNat)
            case atStart => exact ⟨0, rfl, by omega, HA, HS, HB⟩
            case round =>
              clear HA HS HB
              obtain ⟨i, rfl, hi, HA, HS, HB⟩ := hrel
              by_cases hil : i < l0.length
              · have hic : decide ((i : Int) < (l0.length : Int)) = true := by simp; omega
                have hi0 : 0 ≤ (i : Int) := by omega
                obtain ⟨ad, rfl, hq0⟩ := Kd.at_string X0.out (i : Int) hi0 (by omega)
                simp only [Int.toNat_natCast] at hq0
                have HK0 := Aside0.mk hq0
                clear hq0
                have HM0 := Aside0.mk (qCp l0 i hil)
                generalize rdOf ByteArray.empty l0 (i : Int) = s at *
                have HG := Aside0.mk (HO.out.got HJT.out hil HM0.out.1)
                have hkey := qAb HB.out HK0.out
                go_wp2_with fail
                refine (sum_Digest.calls kD s (digD s) wr ⟨Tabs.below hT.out HB.out⟩ (HDS.out s HM0.out.2)).mono ?_
                rintro e w5 ⟨rfl, hb5⟩
                have HB5 := Aside0.mk (qAa HB.out hb5)
                have HA5 := Aside0.mk (HA.out.below hb5)
                have HS5 := Aside0.mk (HS.out.below hb5)
                clear hkey hb5 HB HA HS
                go_wp2_with fail
                refine (qC2 w.heap.size sb vb L (digD s) w5 HS5.out HO.out.ra (by omega)).mono ?_
                rintro e w6 ⟨rfl, hb6⟩
                rw [HG.out]
                have HB6 := Aside0.mk (qAa HB5.out hb6)
                have HA6 := Aside0.mk (HA5.out.below hb6)
                have HS6 := Aside0.mk (HS5.out.below hb6)
                clear hb6 HB5 HA5 HS5 HG HM0
                have hx1 : (s.toList != s.toList) = false := by simp
                have hkey := qAb HB6.out HK0.out
                go_wp2_with fail
                exact ⟨⟨i + 1, by simp, by omega, HA6, HS6, HB6⟩, by simp [intOf]; omega⟩
              · have hic : decide ((i : Int) < (l0.length : Int)) = false := by simp; omega
                obtain rfl : i = l0.length := by omega
                clear hil hi
                have HDL := Aside0.mk (show ∀ x ∈ L, sum_Digest.f kD x.f1 = some (digD x.f1) from fun x hx => HDS.out x.f1 (HO.out.oa x hx).2)
                go_wp2_with fail
                refine (qAt w.heap.size sb vb L wr HS.out (by omega)).mono ?_
                rintro e w9 ⟨v9, rfl, ho9, hb9⟩
                obtain ⟨a9, c9, rfl, hC9⟩ := qAi ho9 (qAl w9 L) rfl
                have hcap9 := qBc ho9
                have HB9 := Aside0.mk (qAa HB.out hb9)
                have HA9 := Aside0.mk (HA.out.below hb9)
                have HS9 := Aside0.mk (HS.out.below hb9)
                have HC9 := Aside0.mk (show Kd.C k68 w9 a9 L.length L from hC9)
                clear hb9 ho9 hC9 HB HA HS HDS HJT
                go_wp2_with fail
                refine (qCh kD digD a9 c9 L w9 ⟨Tabs.below hT.out HB9.out⟩ HC9.out hcap9 (by omega) HDL.out).mono ?_
                intro e w10 hp10
                unfold qBa at hp10
                obtain ⟨hb10, hp10⟩ := hp10
                rw [HO.out.loaded] at hp10
                obtain ⟨_, _, sc, vc, rfl, hs10, hsc⟩ := hp10
                have HB10 := Aside0.mk (qAa HB9.out hb10)
                have HA10 := Aside0.mk (HA9.out.below hb10)
                have HS10 := Aside0.mk (HS9.out.below hb10)
                have HX10 := Aside0.mk (hs10.lower HB9.out.size)
                clear hs10 hb10 HB9 HA9 HS9 HC9 HDL hsc
                obtain ⟨KS, hKS⟩ := qCb L (by omega)
                have HKS := Aside0.mk (hKS KS (Nat.le_refl _))
                clear hKS HO
                have hx9 : (L.length == L.length) = true := by simp
                have hxa : ((L.length : Int) == (L.length : Int)) = true := by simp
                go_wp2_with fail
                refine (qAt w.heap.size sa va L w10 HA10.out (by omega)).mono ?_
                rintro e w11 ⟨v11, rfl, ho11, hb11⟩
                obtain ⟨a11, c11, rfl, hC11⟩ := qAi ho11 (qAl w11 L) rfl
                have hcap11 := qBc ho11
                have HB11 := Aside0.mk (qAa HB10.out hb11)
                have HA11 := Aside0.mk (HA10.out.below hb11)
                have HS11 := Aside0.mk (HS10.out.below hb11)
                have HX11 := Aside0.mk (HX10.out.below hb11)
                have HC11 := Aside0.mk (show Kd.C k68 w11 a11 L.length L from hC11)
                clear hC11 ho11 hb11
                go_wp2_with fail
                refine (qAt w.heap.size sb vb L w11 HS11.out (by omega)).mono ?_
                rintro e w12 ⟨v12, rfl, ho12, hb12⟩
                obtain ⟨a12, c12, rfl, hC12⟩ := qAi ho12 (qAl w12 L) rfl
                have hcap12 := qBc ho12
                have HB12 := Aside0.mk (qAa HB11.out hb12)
                have HA12 := Aside0.mk (HA11.out.below hb12)
                have HX12 := Aside0.mk (HX11.out.below hb12)
                have HC11' := Aside0.mk (Kd.C_below HC11.out hb12)
                clear HC11
                have HC11 := HC11'
                clear HC11'
                have HC12 := Aside0.mk (show Kd.C k68 w12 a12 L.length L from hC12)
                clear hC12 ho12 hb12
                go_wp2_with fail
                refine (hogsheadlaw0_SameBlobs.calls KS a11 c11 L a12 c12 L true w12 HC11.out hcap11 HC12.out hcap12 HKS.out).mono ?_
                rintro e w13 ⟨rfl, hd13⟩
                have HB13 := Aside0.mk (qAa HB12.out hd13.below)
                have HA13 := Aside0.mk (HA12.out.below hd13.below)
                have HX13 := Aside0.mk (HX12.out.below hd13.below)
                clear hd13 HC11 HC12 hcap11 hcap12
                go_wp2_with fail
                refine (qCz w.heap.size sa va L w13 HA13.out).mono ?_
                rintro e w13' ⟨rfl, rfl⟩
                go_wp2_with fail
                refine (qAt w.heap.size sa va L w13 HA13.out (by omega)).mono ?_
                rintro e w14 ⟨v14, rfl, ho14, hb14⟩
                obtain ⟨a14, c14, rfl, hC14⟩ := qAi ho14 (qAl w14 L) rfl
                have hcap14 := qBc ho14
                have HB14 := Aside0.mk (qAa HB13.out hb14)
                have HA14 := Aside0.mk (HA13.out.below hb14)
                have HX14 := Aside0.mk (HX13.out.below hb14)
                have HC14 := Aside0.mk (show Kd.C k68 w14 a14 L.length L from hC14)
                clear hC14 ho14 hb14
                go_wp2_with fail
                refine (qAt w.heap.size sc vc L w14 HX14.out (by omega)).mono ?_
                rintro e w15 ⟨v15, rfl, ho15, hb15⟩
                obtain ⟨a15, c15, rfl, hC15⟩ := qAi ho15 (qAl w15 L) rfl
                have hcap15 := qBc ho15
                have HB15 := Aside0.mk (qAa HB14.out hb15)
                have HA15 := Aside0.mk (HA14.out.below hb15)
                have HC15 := Aside0.mk (show Kd.C k68 w15 a15 L.length L from hC15)
                clear hC15 ho15 hb15
                go_wp2_with fail
                refine (qAt w.heap.size sa va L w15 HA15.out (by omega)).mono ?_
                rintro e w16 ⟨v16, rfl, ho16, hb16⟩
                obtain ⟨a16, c16, rfl, hC16⟩ := qAi ho16 (qAl w16 L) rfl
                have hcap16 := qBc ho16
                have HB16 := Aside0.mk (qAa HB15.out hb16)
                have HA16 := Aside0.mk (HA15.out.below hb16)
                have HC15' := Aside0.mk (Kd.C_below HC15.out hb16)
                clear HC15
                have HC15 := HC15'
                clear HC15'
                have HC16 := Aside0.mk (show Kd.C k68 w16 a16 L.length L from hC16)
                clear hC16 ho16 hb16
                go_wp2_with fail
                refine (hogsheadlaw0_SameBlobs.calls KS a15 c15 L a16 c16 L true w16 HC15.out hcap15 HC16.out hcap16 HKS.out).mono ?_
                rintro e w17 ⟨rfl, hd17⟩
                have HB17 := Aside0.mk (qAa HB16.out hd17.below)
                clear hd17 HC15 HC16
                go_wp2_with (go_at_call 33; refine (qA4 kD _ ⟨Tabs.below hT.out HB17.out⟩ H1.out H2.out).mono ?_; rintro e w18 ⟨rfl, hb18⟩; have HB18 := Aside0.mk (qAa HB17.out hb18); clear hb18)
                go_ret
                exact ⟨rfl, HB18.out⟩
theorem qBp (A0 : Option Addr) (c0 : Nat) (l0 : List ByteArray) (k : Int) (w : World) (hT : Aside0 (Tabs w))
    (hr0 : Kd.C Kd.string w A0 l0.length l0) (hc0 : l0.length ≤ c0) :
    Calls Tryd.prog 13 #[.slice A0 l0.length c0, .int .i64 k] w fun e w' => e = .returned (.bool true) ∧ Below w.heap.size w w' := by
  obtain ⟨K1, h1⟩ := dig_Ev ⟨#[97]⟩ (by decide)
  obtain ⟨K2, h2⟩ := dig_Ev ⟨#[]⟩ (by decide)
  rw [qEw] at h1
  obtain ⟨K3, h3⟩ := qCt l0 12 300 (by omega)
  by_cases hg : ((l0.length : Int) > 12 ∨ ∃ s ∈ l0, (s.size : Int) > 300)
  · refine qA7 (K1 + K2 + K3) A0 c0 l0 k _ w hT hr0 hc0 (h3 _ (by omega)) (h1 _ (by omega)) (h2 _ (by omega)) (fun h => ?_)
    rw [decide_eq_false_iff_not] at h
    exact (h hg).elim
  · have hs : ∀ s ∈ l0, s.size ≤ 300 := fun s hm => by
      rcases Nat.lt_or_ge 300 s.size with h | h
      · exact (hg (.inr ⟨s, hm, by omega⟩)).elim
      · exact h
    obtain ⟨K4, h4⟩ := ev_all (fun k s => sum_Digest.f k s) digD l0 (fun s hm => dig_Ev s (by have := hs s hm; omega))
    exact qA7 (K1 + K2 + K3 + K4) A0 c0 l0 k _ w hT hr0 hc0 (h3 _ (by omega)) (h1 _ (by omega)) (h2 _ (by omega)) (fun _ => ⟨by omega, fun s hm => h4 _ (by omega) s hm⟩)
end Go.Proofs.YtbnoihpooeombaaDoor.X
