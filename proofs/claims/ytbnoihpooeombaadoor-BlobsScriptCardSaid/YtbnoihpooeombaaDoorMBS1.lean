/- Part 1 of what is behind the row RowBlobsScript: WWords, WLast, WKept, WMore, XT, Shelf, XR0, XD, XPG, WEqStruct, WRepsOne, P0, XVP, XVC, XVQ, XVO, XVS, XVL, XRO, Pf28, XVN, X1, Pf98, XVH, XVR, XVI, XVJ, XVW, XVPE, XVML, XWA, XWB, Pf91, Pf63, Pf62, Pf103, Pf88, Pf87, X2, XWC, XWD, XWE, XWF, XWG, XWH, XWI, XWP, XWJ, Pe0, Pf41, XWL, Pf20, XWM, Pf42. -/
import Derived.Below
import Derived.Deep.Draws
import Derived.Deep.AppendLies
import Derived.Maps.AppendAt
import Derived.OwnWalk
import Derived.Laws.BytesArg
import Derived.Laws.MakeOwn
import Derived.Laws.OwnMore
import Derived.Deep.OwnRows
import Derived.Tactics
import Derived.Lib.ConvBytes
import Derived.Laws.Slices
import Derived.WalkKit
import Derived.KernelRfl
import Derived.RowKit3
import Derived.Deep.LoopGhost
import Derived.Deep.QuietTactic
import Derived.BigQuiet
import Derived.WideLaws
import Derived.Deep.DeepCutAuto
import Derived.Deep.CutBlock
import Derived.Deep.RegionHeld3
import Derived.Laws.Rows
import Derived.Lib.AppendStr
import Derived.ArgAppend
import Derived.Laws.IdiomCopy
import Derived.RowKit
import Derived.OrdersHeld
import Derived.Laws.BitsLemmas
import Derived.Test.YtbnoihpooeombaaDoorProg
import Derived.Lib.ItoaNum
import Derived.Lib.ItoaMem
import Derived.Shelf.Strings.Builder1
import Derived.Shelf.Strings.Builder2
import Derived.Shelf.Strings.OnBuilder
import Derived.Shelf.Strings.BuilderF
import Derived.Shelf.Strings.BuilderK
import Derived.Shelf.Strconv.Itoa0
import Derived.Shelf.Strconv.Itoa1
import Derived.Shelf.LaysM
import Derived.Shelf.Strconv.Itoa2
import Derived.Shelf.Strconv.Itoa3
import Derived.Shelf.Strings.Prefix
import Derived.Shelf.Bits.Mul64
import Derived.Shelf.Strings.Repeat
import Derived.Test.YtbnoihpooeombaaDoorRows
import Derived.ProofKit
import Derived.OpenShut
import Derived.ShutString
import Derived.SizedLaws
import Derived.Deep.DeepHandedRow
import Derived.Lib.LaidTab
import Derived.LaidMore
import Derived.Stop.Joined
import Derived.ChangeSlices
import Derived.Lib.IndexMore
import Derived.Lib.Bytealg
import Derived.Laws.BitsAllLaws
import Derived.Lib.Repeat
import Derived.Laws.StructEq
import Derived.Laws.Cover1
import Derived.Deep.AppendSrc
import Derived.Lib.SliceRun
import Derived.Outline
import Derived.WalkLawsBesides
import Derived.WalkSpells
import Derived.LoopTactic
import Derived.Lib.Hide
import Derived.Deep.DeepMust
import Derived.Lib.ItoaLen
import Derived.SliceStrings
import Derived.Deep.Slices
import Derived.Laws.Bits64b
import Derived.Laws.NewBlocks
import Derived.Lib.AppendIntMem
import Derived.Lib.AppendZerosOnto
import Derived.Lib.Overlaps
import Derived.Laws.Externs
import Derived.Laws.CopyOwn
import Derived.Shelf.RegionOpenPlain
import Derived.Deep.RegionLaw
import Derived.Deep.RegionWith
namespace Go.Proofs.YtbnoihpooeombaaDoor.P
end Go.Proofs.YtbnoihpooeombaaDoor.P
namespace Go.Proofs.YtbnoihpooeombaaDoor.X
end Go.Proofs.YtbnoihpooeombaaDoor.X
namespace Go.Proofs.YtbnoihpooeombaaDoorW.PrintLast
end Go.Proofs.YtbnoihpooeombaaDoorW.PrintLast
namespace Go.Proofs.YtbnoihpooeombaaDoorW.PrintMore
end Go.Proofs.YtbnoihpooeombaaDoorW.PrintMore
namespace Go.Proofs.YtbnoihpooeombaaDoorW.PrintWords
end Go.Proofs.YtbnoihpooeombaaDoorW.PrintWords
set_option linter.unusedVariables false
set_option linter.unusedSimpArgs false
namespace Go.Proofs.YtbnoihpooeombaaDoorW.PrintWords
open Go.RowKit
structure Aside0 (p : Prop) : Prop where mk :: (out : p)
structure Drawn0 (w w' : World) : Prop where mk :: (out : ∃ n, w' = w.drewN n)
theorem Drawn0.refl (w : World) : Drawn0 w w := ⟨⟨0, rfl⟩⟩
theorem Drawn0.step {w w' : World} (h : Drawn0 w w') (n : Nat) : Drawn0 w (w'.drewN n) := by
  obtain ⟨m, rfl⟩ := h
  exact ⟨⟨m + n, World.drewN_drewN ..⟩⟩
theorem Drawn0.below {w w' : World} (h : Drawn0 w w') : Below w.heap.size w w' := by
  obtain ⟨n, rfl⟩ := h
  induction n with
  | zero => exact Below.refl _ _
  | succ n ih => rw [← World.drew_drewN]; exact ih.drew
def rd (xs : List Int) (i : Int) : Int := xs.getD i.toNat 0
def bt (s : ByteArray) (i : Int) : Int := if h : i.toNat < s.size then ((s[i.toNat]'h).toNat : Int) else 0
theorem bt_at (s : ByteArray) (i : Int) : ∀ h : i.toNat < s.size, ((s[i.toNat]'h).toNat : Int) = bt s i := fun h => by simp [bt, h]
def nums (k : IntKind) (xs : List Int) : List Value := xs.map fun x => .int k x
theorem qAb {w W : World} (h : Below w.heap.size w W) (o : Obj) : Below w.heap.size w (W.alloc o) := h.alloc h.size o
theorem qBd {B : Nat} {w W : World} (h : Below B w W) : Below B w W.drew := ⟨h.os, h.tape, h.output, h.size, h.block⟩
theorem qAa {B : Nat} {w W : World} (h : Below B w W) (n : Nat) : Below B w (W.drewN n) := ⟨h.os, h.tape, h.output, h.size, h.block⟩
theorem qD5 {B : Nat} {w w1 w2 : World} (h : Below B w w1) (hB : B ≤ w1.heap.size) (k : Below w1.heap.size w1 w2) : Below B w w2 :=
  h.trans ⟨k.os, k.tape, k.output, k.size, fun i hi => k.block i (Nat.lt_of_lt_of_le hi hB)⟩
theorem qAe {w w1 : World} (h : Below w.heap.size w w1) {a : Addr} {v : Value} (hc : w.cell? a = some v) : w1.cell? a = some v := (h.cell (World.block_lt_of_cell? w a hc)).trans hc
theorem qAx (g j : Nat) : (⟨g, 0, none⟩ : Addr).add j = ⟨g, j, none⟩ := by unfold Addr.add; split <;> simp_all
theorem qEd (W : World) (base : Nat) (e : TypeId) (size : Nat) : W.ownsRow base e size (.slice none 0 0) 0 [] := ⟨by simp, .inl ⟨rfl, rfl⟩⟩
theorem qAo {w : World} {base : Nat} {e : TypeId} {size n : Nat} {v : Value} {xs : List Value} (h : w.ownsRow base e size v n xs) (k : Nat) (hk : v.ownBlock = some k) : base ≤ k := by
  rcases h.2 with ⟨rfl, _⟩ | ⟨g, cap, cur, rfl, hb, _⟩
  · simp [Value.ownBlock] at hk
  · have : g = k := by simpa [Value.ownBlock] using hk
    omega
theorem own_lt {w : World} {base : Nat} {e : TypeId} {size n : Nat} {v : Value} {xs : List Value} (h : w.ownsRow base e size v n xs) (k : Nat) (hk : v.ownBlock = some k) : k < w.heap.size := by
  rcases h.2 with ⟨rfl, _⟩ | ⟨g, cap, cur, rfl, hb, hh, _⟩
  · simp [Value.ownBlock] at hk
  · have : g = k := by simpa [Value.ownBlock] using hk
    subst this
    exact (Array.getElem?_eq_some_iff.1 hh).1
theorem qD1 {P : Program} {w : World} {base n : Nat} {e' src dst e : TypeId} {v : Value} {xs : List Int} (hs : P.underlying src = some (.slice e)) (he : P.underlying e = some (.int .u8)) (hd : P.underlying dst = some .string)
    (h : w.ownsRow base e' 1 v n (nums .u8 xs)) : (convert src dst v).run P w = .ok (.string (strOfNums xs)) w := by
  have hl : xs.length = n := by have := h.1; simp [nums] at this; exact this
  rcases h.2 with ⟨rfl, rfl⟩ | ⟨g, cap, cur, rfl, _⟩
  · obtain rfl : xs = [] := List.eq_nil_of_length_eq_zero hl
    exact run_convert_bytes_nil w src e hs he 0 0 dst hd
  · refine run_convert_bytes_arg w src e hs he g 0 n cap xs hl (fun i hi => ?_) dst hd
    have hc := h.cells (g := g) rfl i (.int .u8 (xs.getD i 0)) (by simp [nums, List.getElem?_eq_getElem (show i < xs.length by omega), List.getD_eq_getElem?_getD])
    have ha : (⟨g, 0, none⟩ : Addr).add i = ⟨g, 0 + i, none⟩ := by unfold Addr.add; split <;> simp_all
    rwa [ha] at hc
def qAm (s : ByteArray) : List Int := s.data.toList.map fun b => (b.toNat : Int)
theorem qCg (s : ByteArray) : s.data.toList.length = s.size := by rw [Array.length_toList]; rfl
theorem qAl (s : ByteArray) : (qAm s).length = s.size := by rw [qAm, List.length_map, qCg]
def LeO {α : Type} (a b : Option α) : Prop := ∀ r, a = some r → b = some r
theorem LeO.trans {α : Type} {a b c : Option α} (h : LeO a b) (k : LeO b c) : LeO a c := fun r hr => k r (h r hr)
def Reps {α : Type} (R : α → List Value → Prop) (size : Nat) (ps : List α) (cs : List Value) : Prop :=
  cs.length = ps.length * size ∧ ∀ j p, ps[j]? = some p → R p ((cs.drop (j * size)).take size)
theorem Reps.none {α : Type} (R : α → List Value → Prop) (size : Nat) : Reps R size [] [] := ⟨by simp, fun j p h => by simp at h⟩
theorem Reps.snoc {α : Type} {R : α → List Value → Prop} {size : Nat} {ps : List α} {cs c : List Value} {p : α} (h : Reps R size ps cs) (hp : R p c) (hc : c.length = size) : Reps R size (ps ++ [p]) (cs ++ c) := by
  refine ⟨by rw [List.length_append, h.1, hc, List.length_append, List.length_singleton, Nat.add_mul, Nat.one_mul], fun j q hq => ?_⟩
  rcases Nat.lt_or_ge j ps.length with hj | hj
  · rw [List.getElem?_append_left hj] at hq
    have h1 : j * size + size ≤ cs.length := by rw [h.1, ← Nat.succ_mul]; exact Nat.mul_le_mul_right _ hj
    have h2 := h.2 j q hq
    rw [List.drop_append_of_le_length (by omega), List.take_append_of_le_length (by rw [List.length_drop]; omega)]
    exact h2
  · have hj' : j = ps.length := by
      have := (List.getElem?_eq_some_iff.1 hq).1
      rw [List.length_append, List.length_singleton] at this
      omega
    subst hj'
    have hq' : p = q := by simpa using hq
    subst hq'
    rw [← h.1, List.drop_left, ← hc, List.take_length]
    exact hp
theorem Reps.imp_ {α : Type} {R R' : α → List Value → Prop} {size : Nat} {ps : List α} {cs : List Value} (h : Reps R size ps cs) (hR : ∀ p c, R p c → R' p c) : Reps R' size ps cs := ⟨h.1, fun j p hj => hR _ _ (h.2 j p hj)⟩
def qAp {α : Type} (R : α → List Value → Prop) (size : Nat) (w : World) (A : Option Addr) (n : Nat) (ps : List α) : Prop :=
  ps.length = n ∧ n ≤ 9223372036854775807 ∧ (0 < n → ∃ ad, A = some ad ∧ ∀ j p, ps[j]? = some p → ∃ c, c.length = size ∧ R p c ∧ ∀ i u, c[i]? = some u → w.cell? (ad.add (j * size + i)) = some u)
theorem qAp.get_ {α : Type} {R : α → List Value → Prop} {size : Nat} {w : World} {A : Option Addr} {n : Nat} {ps : List α} (h : qAp R size w A n ps) (d : α) (i : Int) (h0 : 0 ≤ i) (h1 : i < n) :
    ∃ ad c, A = some ad ∧ c.length = size ∧ R (ps.getD i.toNat d) c ∧ ∀ j u, c[j]? = some u → w.cell? (ad.add (i.toNat * size + j)) = some u := by
  obtain ⟨ad, e, hc⟩ := h.2.2 (by omega)
  have hl : i.toNat < ps.length := by have := h.1; omega
  obtain ⟨c, hs, hr, hcell⟩ := hc i.toNat _ (List.getElem?_eq_getElem hl)
  refine ⟨ad, c, e, hs, ?_, hcell⟩
  rw [List.getD_eq_getElem?_getD, List.getElem?_eq_getElem hl]
  exact hr
theorem qAp.imp_ {α : Type} {R R' : α → List Value → Prop} {size : Nat} {w w1 : World} {A : Option Addr} {n : Nat} {ps : List α} (h : qAp R size w A n ps) (hb : Below w.heap.size w w1) (hR : ∀ p c, R p c → R' p c) : qAp R' size w1 A n ps :=
  ⟨h.1, h.2.1, fun hn => by
    obtain ⟨ad, e, hc⟩ := h.2.2 hn
    refine ⟨ad, e, fun j p hj => ?_⟩
    obtain ⟨c, hs, hr, hcell⟩ := hc j p hj
    exact ⟨c, hs, hR _ _ hr, fun i u hu => qAe hb (hcell i u hu)⟩⟩
theorem qAs {α : Type} {R : α → List Value → Prop} {w : World} {base n size : Nat} {e : TypeId} {v : Value} {ps : List α} {cs : List Value} (h : w.ownsRow base e size v n cs) (hR : Reps R size ps cs) (hn : ps.length = n) :
    ∃ A c, v = .slice A n c ∧ qAp R size w A n ps := by
  rcases Nat.eq_zero_or_pos n with h0 | h0
  · rcases h.2 with ⟨rfl, rfl⟩ | ⟨g, cap, cur, rfl, _⟩
    · exact ⟨none, 0, rfl, hn, by omega, fun hp => absurd hp (by omega)⟩
    · exact ⟨_, cap, rfl, hn, by omega, fun hp => absurd hp (by omega)⟩
  · obtain ⟨g, cap, rfl, _, _⟩ := h.form h0
    have hm : n ≤ 9223372036854775807 := by
      rcases h.2 with ⟨_, h1⟩ | ⟨g', cap', cur, he, _, _, h1, h2, _⟩
      · omega
      · simp only [maxLen] at h2
        omega
    refine ⟨_, cap, rfl, hn, hm, fun _ => ⟨_, rfl, fun j p hj => ⟨(cs.drop (j * size)).take size, ?_, hR.2 j p hj, fun i u hu => ?_⟩⟩⟩
    · have hjl := (List.getElem?_eq_some_iff.1 hj).1
      have h1 : j * size + size ≤ cs.length := by rw [hR.1, ← Nat.succ_mul]; exact Nat.mul_le_mul_right _ hjl
      rw [List.length_take, List.length_drop]
      omega
    · refine h.cells (g := g) rfl _ u ?_
      rw [List.getElem?_take] at hu
      split at hu
      · rw [List.getElem?_drop] at hu
        exact hu
      · cases hu
theorem qEo (ad : Addr) (m j : Nat) (hj : 0 < j) : ad.add (m + j) = ⟨(ad.add m).block, (ad.add m).off + j, none⟩ := by
  unfold Addr.add
  by_cases hm : m = 0
  · subst hm
    simp [Nat.ne_of_gt hj]
  · simp [hm, Nat.add_assoc]
section
variable {P : Program} {ops : Array Oper} {rest : List Oper} {o : Oper} {a : Act} {Q : Exit → Act → World → Prop}
theorem qBn {w0 W : World} (base : Nat) (hgd : o.guard = none) (s x : Operand) (t e : TypeId) (z : Value) (size bytes : Nat)
    (ho : o.op = .call { callee := .builtin .append, args := #[s, x], argTypes := #[t, t] })
    (ht : P.underlying t = some (.slice e)) (hinfo : (P.info? e).map (fun i => (i.zero, i.size, i.bytes)) = some (some z, size, bytes)) (hz : z.cells.size = size) (hs0 : 0 < size) (hb0 : 0 < bytes)
    (v : Value) (n : Nat) (xs ys : List Value) (hs : a.eval s = v) (hx : a.eval x = .slice (some ⟨W.heap.size, 0, none⟩) 1 1) (hys : ys.length = size) (h1 : ∀ u ∈ ys, u.oneCell' = true)
    (HO : W.ownsRow base e size v n xs) (HB : Below base w0 W) (hbase : base ≤ W.heap.size) (hl : (n + 1) * bytes ≤ 140737488355328)
    (h : ∀ v1 w1, w1.ownsRow base e size v1 (n + 1) (xs ++ ys) → Below base w0 w1 → W.grownBy w1 v.ownBlock → (v1.ownBlock = v.ownBlock ∨ ∃ b, v1.ownBlock = some b ∧ W.heap.size ≤ b) → wpList P ops Q rest (a.put o.dst v1) w1) :
    wpList P ops Q (o :: rest) a (W.alloc (.cells ys.toArray e)) := by
  obtain ⟨i0, hi, hzz⟩ := Option.map_eq_some_iff.1 hinfo
  simp only [Prod.mk.injEq] at hzz
  obtain ⟨hz0, hz1, hz2⟩ := hzz
  have hlen : n + 1 ≤ 140737488355328 := Nat.le_trans (Nat.le_mul_of_pos_right _ hb0) hl
  refine wpList_append_own_at (W.alloc (.cells ys.toArray e)) hgd s x t ho base e i0 z size bytes ht hi hz0 hz1 hz2 hz hs0 v n xs hs (HO.alloc _) ⟨W.heap.size, 0, none⟩ 1 1 ys hx (by rw [hys]; simp)
    (by simpa using World.news_of_block (cs := ys.toArray) (t := e) (fr := (0, 0)) (heap_alloc_new W (.cells ys.toArray e))) h1 (by simp only [maxLen]; omega) hl (by simp; omega) ?_
  intro v1 w1 hown hg _ hat
  refine h v1 w1 hown ((HB.alloc hbase _).grown hg (by simp; omega) (qAo HO)) (World.grownBy.trans (World.grownBy_alloc W _ _) hg) ?_
  rcases hat with hat | hat
  · exact .inl hat
  · exact .inr ⟨_, hat, by simp⟩
end
theorem own_ne {w : World} {base : Nat} {e t : TypeId} {size n g : Nat} {v : Value} {xs : List Value} {cs : Array Value} (h : w.ownsRow base e size v n xs) (hg : w.heap[g]? = some (.cells cs t (0, 0))) (hne : e ≠ t) : some g ≠ v.ownBlock := by
  rcases h.2 with ⟨rfl, _⟩ | ⟨g', cap, cur, rfl, _, hh, _⟩
  · simp [Value.ownBlock]
  · intro he
    have : g = g' := by simpa [Value.ownBlock] using he
    subst this
    rw [hg] at hh
    injection hh with hh
    injection hh with _ ht
    exact hne ht.symm
theorem qE6 {w : World} {g : Nat} {t : TypeId} {cs : Array Value} (h : w.heap[g]? = some (.cells cs t (0, 0))) (i : Nat) (u : Value) : (w.setCell ⟨g, i, none⟩ u).heap[g]? = some (.cells (cs.setIfInBounds i u) t (0, 0)) := by
  simp [World.setCell, Array.getElem?_modify, h]
theorem blk_lt {w : World} {g : Nat} {o : Obj} (h : w.heap[g]? = some o) : g < w.heap.size := (Array.getElem?_eq_some_iff.1 h).1
theorem qAy {w : World} {g : Nat} {t : TypeId} {cs : Array Value} (h : w.heap[g]? = some (.cells cs t (0, 0))) (i : Nat) : w.cell? ⟨g, i, none⟩ = cs[i]? := cell_of_row w g i cs t (0, 0) h
theorem qA2 {w : World} {g : Nat} {t : TypeId} {cs : Array Value} (h : w.heap[g]? = some (.cells cs t (0, 0))) (i : Nat) : w.frozen? ⟨g, i, none⟩ = false := by simp [World.frozen?, h]
theorem qEm {w w1 : World} {g : Nat} {o : Obj} {row : Option Nat} (h : w.heap[g]? = some o) (hg : w.grownBy w1 row) (hne : some g ≠ row) : w1.heap[g]? = some o := (hg.block g (blk_lt h) hne).trans h
def qCy (w w' : World) (g : Nat) (row : Option Nat) : Prop := w.heap.size ≤ w'.heap.size ∧ ∀ i, i < w.heap.size → i ≠ g → some i ≠ row → w'.heap[i]? = w.heap[i]?
theorem qCy.trans {w w1 w2 : World} {g : Nat} {row row1 : Option Nat} (h : qCy w w1 g row) (k : qCy w1 w2 g row1) (hr : row1 = row ∨ ∃ b, row1 = some b ∧ w.heap.size ≤ b) : qCy w w2 g row :=
  ⟨Nat.le_trans h.1 k.1, fun i hi hg hn => by
    refine (k.2 i (Nat.lt_of_lt_of_le hi h.1) hg ?_).trans (h.2 i hi hg hn)
    rcases hr with rfl | ⟨b, rfl, hb⟩
    · exact hn
    · intro e
      injection e with e
      omega⟩
def Ev {α : Type} (g : Nat → Option α) (r : α) : Prop := ∃ K, ∀ k, K ≤ k → g k = some r
theorem qBs {w : World} {base base' : Nat} {e : TypeId} {size n : Nat} {v : Value} {xs : List Value} (h : w.ownsRow base e size v n xs) (hb : base' ≤ base) : w.ownsRow base' e size v n xs := by
  obtain ⟨h1, h2⟩ := h
  refine ⟨h1, ?_⟩
  rcases h2 with h2 | ⟨g, cap, cur, rfl, hg, r⟩
  · exact .inl h2
  · exact .inr ⟨g, cap, cur, rfl, Nat.le_trans hb hg, r⟩
section
variable {α : Type} {enc : α → Value} {d : α}
def encs (enc : α → Value) (xs : List α) : List Value := xs.map enc
def rdOf (d : α) (xs : List α) (i : Int) : α := xs.getD i.toNat d
theorem qDp (xs : List α) : (encs enc xs).length = xs.length := by simp [encs]
def qBy (enc : α → Value) (d : α) (w : World) (A : Option Addr) (n : Nat) (xs : List α) : Prop :=
  xs.length = n ∧ n ≤ 9223372036854775807 ∧ (0 < n → ∃ ad, A = some ad ∧ ∀ j, j < n → w.cell? (ad.add j) = some (enc (xs.getD j d)))
theorem qBy.at_ {w : World} {A : Option Addr} {n : Nat} {xs : List α} (h : qBy enc d w A n xs) (i : Int) (h0 : 0 ≤ i) (h1 : i < n) : ∃ ad, A = some ad ∧ w.cell? (ad.add i.toNat) = some (enc (rdOf d xs i)) := by
  obtain ⟨ad, e, hc⟩ := h.2.2 (by omega)
  exact ⟨ad, e, hc _ (by omega)⟩
end
theorem qBc {w w1 : World} {g : Nat} {o : Obj} (h : w.heap[g]? = some o) (hb : Below w.heap.size w w1) : w1.heap[g]? = some o := (hb.block g (blk_lt h)).trans h
theorem qAq (w : World) (o : Obj) : (w.alloc o).heap[w.heap.size]? = some o := heap_alloc_new w o
theorem own_le {w : World} {base n m c size : Nat} {e : TypeId} {A : Option Addr} {xs : List Value} (h : w.ownsRow base e size (.slice A m c) n xs) : m ≤ c := by
  rcases h.2 with ⟨he, _⟩ | ⟨g, cap, cur, he, _, _, hnc, _⟩
  · injection he with _ h2 h3
    omega
  · injection he with _ h2 h3
    omega
def OwnRow {α : Type} (R : α → List Value → Prop) (e : TypeId) (size : Nat) (w : World) (base : Nat) (v : Value) (ps : List α) : Prop :=
  ∃ inner, w.ownsRow base e size v ps.length inner ∧ Reps R size ps inner
section
variable {α : Type} {R R' : α → List Value → Prop} {e : TypeId} {size : Nat} {w w1 : World} {base : Nat} {v : Value} {ps : List α}
theorem OwnRow.none_ (R : α → List Value → Prop) (e : TypeId) (size : Nat) (w : World) (base : Nat) : OwnRow R e size w base (.slice none 0 0) [] := ⟨[], qEd _ _ _ _, Reps.none _ _⟩
theorem OwnRow.imp_ (h : OwnRow R e size w base v ps) (hR : ∀ p c, R p c → R' p c) : OwnRow R' e size w base v ps := by
  obtain ⟨inner, ho, hr⟩ := h
  exact ⟨inner, ho, hr.imp_ hR⟩
theorem OwnRow.reads (h : OwnRow R e size w base v ps) : ∃ A c, v = .slice A ps.length c ∧ ps.length ≤ c ∧ qAp R size w A ps.length ps := by
  obtain ⟨inner, ho, hr⟩ := h
  obtain ⟨A, c, rfl, hrow⟩ := qAs ho hr rfl
  exact ⟨A, c, rfl, own_le ho, hrow⟩
end
structure Kd (α : Type) where
  sz : Nat
  E : List Nat
  K : World → α → List Value → Prop
  M : World → Nat → (Nat → Prop) → α → List Value → Prop
  K_len : ∀ {w x cs}, K w x cs → cs.length = sz
  K_one : ∀ {w x cs}, K w x cs → ∀ u ∈ cs, u.oneCell' = true
  K_below : ∀ {w w1 : World} {x cs}, Below w.heap.size w w1 → K w x cs → K w1 x cs
  K_of_M : ∀ {w base ok x cs}, M w base ok x cs → K w x cs
  M_mono : ∀ {w base ok ok' x cs}, (∀ k, ok k → ok' k) → M w base ok x cs → M w base ok' x cs
  M_bound : ∀ {w : World} {base ok x cs}, M w base ok x cs → M w base (fun k => ok k ∧ base ≤ k ∧ k < w.heap.size ∧ ∃ q, q ∈ E ∧ ∃ cells, w.heap[k]? = some (.cells cells q (0, 0))) x cs
  M_move : ∀ {w w1 : World} {base ok x cs}, (∀ k, ok k → w1.heap[k]? = w.heap[k]?) → M w base ok x cs → M w1 base ok x cs
  M_lower : ∀ {w base base' ok x cs}, base' ≤ base → M w base ok x cs → M w base' ok x cs
theorem qBo {w w1 : World} {base : Nat} {e : TypeId} {size n : Nat} {v : Value} {xs : List Value} (h : w.ownsRow base e size v n xs) (hm : ∀ k, v.ownBlock = some k → w1.heap[k]? = w.heap[k]?) : w1.ownsRow base e size v n xs := by
  obtain ⟨h1, h2⟩ := h
  refine ⟨h1, ?_⟩
  rcases h2 with h2 | ⟨g, cap, cur, rfl, hg, hh, r⟩
  · exact .inl h2
  · exact .inr ⟨g, cap, cur, rfl, hg, (hm g (by simp [Value.ownBlock])).trans hh, r⟩
theorem qB6 {w : World} {base : Nat} {e : TypeId} {size n : Nat} {v : Value} {xs : List Value} (h : w.ownsRow base e size v n xs) (k : Nat) (hk : v.ownBlock = some k) : ∃ cells, w.heap[k]? = some (.cells cells e (0, 0)) := by
  rcases h.2 with ⟨rfl, _⟩ | ⟨g, cap, cur, rfl, hg, hh, r⟩
  · simp [Value.ownBlock] at hk
  · have : g = k := by simpa [Value.ownBlock] using hk
    subst this
    exact ⟨cur, hh⟩
namespace Kd
def C {α : Type} (d : Kd α) (w : World) (A : Option Addr) (n : Nat) (xs : List α) : Prop := qAp (d.K w) d.sz w A n xs
def R {α : Type} (d : Kd α) (e : Nat) (w : World) (base : Nat) (ok : Nat → Prop) (v : Value) (xs : List α) : Prop :=
  (∀ k, v.ownBlock = some k → ok k) ∧ OwnRow (d.M w base (fun k => ok k ∧ some k ≠ v.ownBlock)) e d.sz w base v xs
section
variable {α : Type} {d : Kd α} {e : Nat} {w w1 : World} {base : Nat} {ok ok' : Nat → Prop} {v : Value} {xs : List α}
theorem C_below {A : Option Addr} {n : Nat} (h : d.C w A n xs) (hb : Below w.heap.size w w1) : d.C w1 A n xs := qAp.imp_ h hb (fun _ _ hp => d.K_below hb hp)
theorem R_nil (d : Kd α) (e : Nat) (w : World) (base : Nat) (ok : Nat → Prop) : d.R e w base ok (.slice none 0 0) [] := ⟨fun k hk => by simp [Value.ownBlock] at hk, OwnRow.none_ _ _ _ _ _⟩
theorem R_mono (h : d.R e w base ok v xs) (hok : ∀ k, ok k → ok' k) : d.R e w base ok' v xs := ⟨fun k hk => hok k (h.1 k hk), h.2.imp_ (fun _ _ hp => d.M_mono (fun k hk => ⟨hok k hk.1, hk.2⟩) hp)⟩
theorem R_bound (h : d.R e w base ok v xs) : d.R e w base (fun k => ok k ∧ base ≤ k ∧ k < w.heap.size ∧ ∃ q, q ∈ e :: d.E ∧ ∃ cells, w.heap[k]? = some (.cells cells q (0, 0))) v xs := by
  obtain ⟨h0, inner, ho, hr⟩ := h
  refine ⟨fun k hk => ?_, inner, ho, hr.imp_ (fun _ _ hp => d.M_mono (fun k hk => ?_) (d.M_bound hp))⟩
  · obtain ⟨cells, hc⟩ := qB6 ho k hk
    exact ⟨h0 k hk, qAo ho k hk, own_lt ho k hk, e, List.mem_cons_self, cells, hc⟩
  · obtain ⟨⟨h1, h2⟩, h3, h4, q, hq, hc⟩ := hk
    exact ⟨⟨h1, h3, h4, q, List.mem_cons_of_mem _ hq, hc⟩, h2⟩
theorem R_move (h : d.R e w base ok v xs) (hm : ∀ k, ok k → w1.heap[k]? = w.heap[k]?) : d.R e w1 base ok v xs := by
  obtain ⟨h0, inner, ho, hr⟩ := h
  exact ⟨h0, inner, qBo ho (fun k hk => hm k (h0 k hk)), hr.imp_ (fun _ _ hp => d.M_move (fun k hk => hm k hk.1) hp)⟩
theorem R_lower {base' : Nat} (h : d.R e w base ok v xs) (hb : base' ≤ base) : d.R e w base' ok v xs := by
  obtain ⟨h0, inner, ho, hr⟩ := h
  exact ⟨h0, inner, qBs ho hb, hr.imp_ (fun _ _ hp => d.M_lower hb hp)⟩
theorem R_step (h : d.R e w base ok v xs) (hm : ∀ k, ok k → k < w.heap.size → w1.heap[k]? = w.heap[k]?) : d.R e w1 base ok v xs :=
  R_mono (R_move (R_bound h) (fun k hk => hm k hk.1 hk.2.2.1)) (fun _ hk => hk.1)
theorem R_below (h : d.R e w base ok v xs) (hb : Below w.heap.size w w1) : d.R e w1 base ok v xs := R_step h (fun k _ hk => hb.block k hk)
theorem R_reads (h : d.R e w base ok v xs) : ∃ A c, v = .slice A xs.length c ∧ xs.length ≤ c ∧ d.C w A xs.length xs := by
  obtain ⟨A, c, he, hl, hr⟩ := OwnRow.reads h.2
  exact ⟨A, c, he, hl, hr.imp_ (Below.refl _ _) (fun _ _ hp => d.K_of_M hp)⟩
theorem R_slice (h : d.R e w base ok v xs) : ∃ A c, v = .slice A xs.length c := by
  obtain ⟨A, c, he, _⟩ := R_reads h
  exact ⟨A, c, he⟩
theorem R_own (h : d.R e w base ok v xs) : ∃ inner, w.ownsRow base e d.sz v xs.length inner := by
  obtain ⟨_, inner, ho, _⟩ := h
  exact ⟨inner, ho⟩
end
def scalar {α : Type} (enc : α → Value) (h1 : ∀ x, (enc x).oneCell' = true) : Kd α where
  sz := 1
  E := []
  K := fun _ x cs => cs = [enc x]
  M := fun _ _ _ x cs => cs = [enc x]
  K_len := fun h => by rw [h]; rfl
  K_one := fun h u hu => by
    rw [h] at hu
    rw [List.mem_singleton.1 hu]
    exact h1 _
  K_below := fun _ h => h
  K_of_M := fun h => h
  M_mono := fun _ h => h
  M_bound := fun h => h
  M_move := fun _ h => h
  M_lower := fun _ h => h
def int (k : IntKind) : Kd Int := scalar (Value.int k) (fun _ => rfl)
def string : Kd ByteArray := scalar Value.string (fun _ => rfl)
def slice {α : Type} (e : Nat) (d : Kd α) : Kd (List α) where
  sz := 1
  E := e :: d.E
  K := fun w xs cs => ∃ A c, cs = [.slice A xs.length c] ∧ xs.length ≤ c ∧ d.C w A xs.length xs
  M := fun w base ok xs cs => ∃ v, cs = [v] ∧ d.R e w base ok v xs
  K_len := by
    rintro w x cs ⟨A, c, rfl, _⟩
    rfl
  K_one := by
    rintro w x cs ⟨A, c, rfl, _⟩ u hu
    rw [List.mem_singleton.1 hu]
    rfl
  K_below := by
    rintro w w1 x cs hb ⟨A, c, rfl, hl, hr⟩
    exact ⟨A, c, rfl, hl, C_below hr hb⟩
  K_of_M := by
    rintro w base ok x cs ⟨v, rfl, h⟩
    obtain ⟨A, c, rfl, hl, hr⟩ := R_reads h
    exact ⟨A, c, rfl, hl, hr⟩
  M_mono := by
    rintro w base ok ok' x cs hok ⟨v, rfl, h⟩
    exact ⟨v, rfl, R_mono h hok⟩
  M_bound := by
    rintro w base ok x cs ⟨v, rfl, h⟩
    exact ⟨v, rfl, R_bound h⟩
  M_move := by
    rintro w w1 base ok x cs hm ⟨v, rfl, h⟩
    exact ⟨v, rfl, R_move h hm⟩
  M_lower := by
    rintro w base base' ok x cs hb ⟨v, rfl, h⟩
    exact ⟨v, rfl, R_lower h hb⟩
def pair {α β : Type} (a : Kd α) (b : Kd β) : Kd (α × β) where
  sz := a.sz + b.sz
  E := a.E ++ b.E
  K := fun w x cs => ∃ c0 c1, cs = c0 ++ c1 ∧ a.K w x.1 c0 ∧ b.K w x.2 c1
  M := fun w base ok x cs => ∃ c0 c1, cs = c0 ++ c1 ∧ a.M w base ok x.1 c0 ∧ b.M w base ok x.2 c1
  K_len := by
    rintro w x cs ⟨c0, c1, rfl, h0, h1⟩
    rw [List.length_append, a.K_len h0, b.K_len h1]
  K_one := by
    rintro w x cs ⟨c0, c1, rfl, h0, h1⟩ u hu
    rcases List.mem_append.1 hu with hu | hu
    · exact a.K_one h0 u hu
    · exact b.K_one h1 u hu
  K_below := by
    rintro w w1 x cs hb ⟨c0, c1, rfl, h0, h1⟩
    exact ⟨c0, c1, rfl, a.K_below hb h0, b.K_below hb h1⟩
  K_of_M := by
    rintro w base ok x cs ⟨c0, c1, rfl, h0, h1⟩
    exact ⟨c0, c1, rfl, a.K_of_M h0, b.K_of_M h1⟩
  M_mono := by
    rintro w base ok ok' x cs hok ⟨c0, c1, rfl, h0, h1⟩
    exact ⟨c0, c1, rfl, a.M_mono hok h0, b.M_mono hok h1⟩
  M_bound := by
    rintro w base ok x cs ⟨c0, c1, rfl, h0, h1⟩
    refine ⟨c0, c1, rfl, a.M_mono ?_ (a.M_bound h0), b.M_mono ?_ (b.M_bound h1)⟩
    · rintro k ⟨h2, h3, h4, q, hq, hc⟩
      exact ⟨h2, h3, h4, q, List.mem_append_left _ hq, hc⟩
    · rintro k ⟨h2, h3, h4, q, hq, hc⟩
      exact ⟨h2, h3, h4, q, List.mem_append_right _ hq, hc⟩
  M_move := by
    rintro w w1 base ok x cs hm ⟨c0, c1, rfl, h0, h1⟩
    exact ⟨c0, c1, rfl, a.M_move hm h0, b.M_move hm h1⟩
  M_lower := by
    rintro w base base' ok x cs hb ⟨c0, c1, rfl, h0, h1⟩
    exact ⟨c0, c1, rfl, a.M_lower hb h0, b.M_lower hb h1⟩
def iso {α β : Type} (d : Kd α) (f : β → α) : Kd β where
  sz := d.sz
  E := d.E
  K := fun w x cs => d.K w (f x) cs
  M := fun w base ok x cs => d.M w base ok (f x) cs
  K_len := d.K_len
  K_one := d.K_one
  K_below := d.K_below
  K_of_M := d.K_of_M
  M_mono := d.M_mono
  M_bound := d.M_bound
  M_move := d.M_move
  M_lower := d.M_lower
theorem C_get {α : Type} {d : Kd α} {w : World} {A : Option Addr} {n : Nat} {xs : List α} (h : d.C w A n xs) (z : α) (i : Int) (h0 : 0 ≤ i) (h1 : i < n) :
    ∃ ad c, A = some ad ∧ c.length = d.sz ∧ d.K w (xs.getD i.toNat z) c ∧ ∀ j u, c[j]? = some u → w.cell? (ad.add (i.toNat * d.sz + j)) = some u := qAp.get_ h z i h0 h1
theorem R_appended {α : Type} {d : Kd α} {e base : Nat} {ok okp : Nat → Prop} {W w1 : World} {v v1 : Value} {xs : List α} {p : α} {inner cs : List Value} (h0 : ∀ k, v.ownBlock = some k → ok k) (hr : Reps (d.M W base (fun k => ok k ∧ some k ≠ v.ownBlock)) d.sz xs inner) (hp : d.M W base okp p cs) (hokp : ∀ k, okp k → ok k ∧ some k ≠ v.ownBlock) (hfresh : ∀ k, W.heap.size ≤ k → ok k)
    (hown : w1.ownsRow base e d.sz v1 (xs.length + 1) (inner ++ cs)) (hg : W.grownBy w1 v.ownBlock) (hat : v1.ownBlock = v.ownBlock ∨ ∃ b, v1.ownBlock = some b ∧ W.heap.size ≤ b) : d.R e w1 base ok v1 (xs ++ [p]) := by
  have hne : ∀ k, some k ≠ v.ownBlock → k < W.heap.size → some k ≠ v1.ownBlock := by
    intro k hk hlt
    rcases hat with hat | ⟨b, hb, hle⟩
    · rw [hat]; exact hk
    · rw [hb]
      intro he
      injection he with he
      omega
  have step : ∀ {q : α} {c : List Value} {o : Nat → Prop}, d.M W base o q c → (∀ k, o k → ok k ∧ some k ≠ v.ownBlock) → d.M w1 base (fun k => ok k ∧ some k ≠ v1.ownBlock) q c := by
    intro q c o hq ho
    have h1 := d.M_move (w1 := w1) (fun k hk => hg.block k hk.2.2.1 (ho k hk.1).2) (d.M_bound hq)
    exact d.M_mono (fun k hk => ⟨(ho k hk.1).1, hne k (ho k hk.1).2 hk.2.2.1⟩) h1
  refine ⟨fun k hk => ?_, inner ++ cs, by rw [List.length_append, List.length_singleton]; exact hown, ?_⟩
  · rcases hat with hat | ⟨b, hb, hle⟩
    · exact h0 k (hat ▸ hk)
    · rw [hb] at hk
      injection hk with hk
      exact hfresh k (by omega)
  · exact (hr.imp_ (fun _ _ hq => step hq (fun _ hk => hk))).snoc (step hp hokp) (d.K_len (d.K_of_M hp))
section
variable {P : Program} {ops : Array Oper} {rest : List Oper} {o : Oper} {a : Act} {Q : Exit → Act → World → Prop} {α : Type}
theorem R_append (d : Kd α) {w0 W : World} (base : Nat) (hgd : o.guard = none) (s x : Operand) (t e : TypeId) (z : Value) (bytes : Nat)
    (ho : o.op = .call { callee := .builtin .append, args := #[s, x], argTypes := #[t, t] })
    (ht : P.underlying t = some (.slice e)) (hinfo : (P.info? e).map (fun i => (i.zero, i.size, i.bytes)) = some (some z, d.sz, bytes)) (hz : z.cells.size = d.sz) (hs0 : 0 < d.sz) (hb0 : 0 < bytes)
    (v : Value) (xs : List α) (p : α) (cs : List Value) (ok okp : Nat → Prop) (hs : a.eval s = v) (hx : a.eval x = .slice (some ⟨W.heap.size, 0, none⟩) 1 1) (hp : d.M W base okp p cs) (hokp : ∀ k, okp k → ok k ∧ some k ≠ v.ownBlock) (hfresh : ∀ k, W.heap.size ≤ k → ok k)
    (HO : d.R e W base ok v xs) (HB : Below base w0 W) (hbase : base ≤ W.heap.size) (hl : (xs.length + 1) * bytes ≤ 140737488355328)
    (h : ∀ v1 w1, d.R e w1 base ok v1 (xs ++ [p]) → Below base w0 w1 → W.grownBy w1 v.ownBlock → (v1.ownBlock = v.ownBlock ∨ ∃ b, v1.ownBlock = some b ∧ W.heap.size ≤ b) → wpList P ops Q rest (a.put o.dst v1) w1) :
    wpList P ops Q (o :: rest) a (W.alloc (.cells cs.toArray e)) := by
  obtain ⟨h0, inner, hown, hr⟩ := HO
  refine qBn base hgd s x t e z d.sz bytes ho ht hinfo hz hs0 hb0 v xs.length inner cs hs hx (d.K_len (d.K_of_M hp)) (d.K_one (d.K_of_M hp)) hown HB hbase hl ?_
  intro v1 w1 hown1 hb1 hg1 hat1
  exact h v1 w1 (R_appended h0 hr hp hokp hfresh hown1 hg1 hat1) hb1 hg1 hat1
end
theorem own_of_R {α : Type} {enc : α → Value} {h1 : ∀ x, (enc x).oneCell' = true} {e : Nat} {w : World} {base : Nat} {ok : Nat → Prop} {v : Value} {xs : List α} (h : (scalar enc h1).R e w base ok v xs) : w.ownsRow base e 1 v xs.length (encs enc xs) := by
  obtain ⟨_, inner, ho, hr⟩ := h
  have : inner = encs enc xs := by
    apply List.ext_getElem?
    intro j
    rcases Nat.lt_or_ge j xs.length with hj | hj
    · have h2 := hr.2 j _ (List.getElem?_eq_getElem hj)
      have hl : j < inner.length := by have := hr.1; simp [scalar] at this; omega
      have h3 : (inner.drop (j * 1)).take 1 = [enc xs[j]] := h2
      rw [Nat.mul_one, List.drop_eq_getElem_cons hl] at h3
      have h4 : inner[j] = enc xs[j] := by
        have h5 := congrArg List.head? h3
        rw [List.take_succ_cons] at h5
        exact Option.some.inj h5
      rw [List.getElem?_eq_getElem hl, h4]
      simp [encs, List.getElem?_eq_getElem hj]
    · have h3 : inner.length = xs.length := by have := hr.1; simp [scalar] at this; omega
      rw [List.getElem?_eq_none (by omega), List.getElem?_eq_none (by rw [qDp]; omega)]
  rw [← this]
  exact ho
theorem C_of_reads {α : Type} {enc : α → Value} {d : α} {h1 : ∀ x, (enc x).oneCell' = true} {w : World} {A : Option Addr} {n : Nat} {xs : List α} (h : qBy enc d w A n xs) : (scalar enc h1).C w A n xs := by
  refine ⟨h.1, h.2.1, fun hn => ?_⟩
  obtain ⟨ad, e, hc⟩ := h.2.2 hn
  refine ⟨ad, e, fun j p hj => ⟨[enc p], rfl, rfl, fun i u hu => ?_⟩⟩
  obtain ⟨hl, hp⟩ := List.getElem?_eq_some_iff.1 hj
  have h2 := hc j (by have := h.1; omega)
  rw [List.getD_eq_getElem?_getD, hj] at h2
  cases i with
  | zero =>
    have : enc p = u := by simpa using hu
    subst this
    simpa [scalar] using h2
  | succ i => simp at hu
theorem reads_of_C {α : Type} {enc : α → Value} {d : α} {h1 : ∀ x, (enc x).oneCell' = true} {w : World} {A : Option Addr} {n : Nat} {xs : List α} (h : (scalar enc h1).C w A n xs) : qBy enc d w A n xs := by
  refine ⟨h.1, h.2.1, fun hn => ?_⟩
  obtain ⟨ad, e, hc⟩ := h.2.2 hn
  refine ⟨ad, e, fun j hj => ?_⟩
  have hl : j < xs.length := by have := h.1; omega
  obtain ⟨c, _, hK, hcell⟩ := hc j _ (List.getElem?_eq_getElem hl)
  have hK' : c = [enc xs[j]] := hK
  subst hK'
  have := hcell 0 _ rfl
  simpa [scalar, List.getD_eq_getElem?_getD, List.getElem?_eq_getElem hl] using this
end Kd
namespace Kd
section
variable {α β : Type} {d : Kd α} {d' : Kd β} {e e' : Nat} {w w1 W : World} {base b b' : Nat} {ok ok' okv oku : Nat → Prop} {v u : Value} {xs : List α} {ys : List β}
theorem R_reads' {A : Option Addr} {n c : Nat} (h : d.R e w base ok (.slice A n c) xs) : n = xs.length ∧ n ≤ c ∧ d.C w A xs.length xs := by
  obtain ⟨A', c', he, hl, hr⟩ := R_reads h
  injection he with h1 h2 h3
  subst h1
  exact ⟨h2, by omega, hr⟩
theorem R_form (h : d.R e w base ok v xs) (hp : 0 < xs.length) : ∃ g cap, v = .slice (some ⟨g, 0, none⟩) xs.length cap ∧ base ≤ g ∧ g < w.heap.size ∧ ∃ cells, w.heap[g]? = some (.cells cells e (0, 0)) := by
  obtain ⟨inner, ho⟩ := R_own h
  obtain ⟨g, cap, he, hb, hl⟩ := ho.form hp
  obtain ⟨cells, hc⟩ := qB6 ho g (by rw [he]; simp [Value.ownBlock])
  exact ⟨g, cap, he, hb, hl, cells, hc⟩
end
section
variable {w W : World} {A : Option Addr} {n : Nat}
theorem at_int {k : IntKind} {xs : List Int} (h : (Kd.int k).C w A n xs) (i : Int) (h0 : 0 ≤ i) (h1 : i < n) : ∃ ad, A = some ad ∧ w.cell? (ad.add i.toNat) = some (.int k (rd xs i)) :=
  qBy.at_ (reads_of_C (enc := Value.int k) (d := (0 : Int)) (h1 := fun _ => rfl) h) i h0 h1
theorem at_string {xs : List ByteArray} (h : Kd.string.C w A n xs) (i : Int) (h0 : 0 ≤ i) (h1 : i < n) : ∃ ad, A = some ad ∧ w.cell? (ad.add i.toNat) = some (.string (rdOf ByteArray.empty xs i)) :=
  qBy.at_ (reads_of_C (enc := Value.string) (d := ByteArray.empty) (h1 := fun _ => rfl) h) i h0 h1
variable {α : Type} {enc : α → Value} {h1 : ∀ x, (enc x).oneCell' = true} {e base g cap : Nat} {ok : Nat → Prop} {xs : List α}
end
end Kd
section
variable {w w1 : World} {base n size : Nat} {e : TypeId} {v : Value} {xs : List Value}
theorem qB0 {g : Nat} : ∀ (vs : List Value) (o : Nat) {w : World} (k : Nat), k ≠ g → (w.setCells g o vs).heap[k]? = w.heap[k]?
  | [], _, _, _, _ => rfl
  | v :: r, o, w, k, hk => by
    rw [World.setCells, qB0 r (o + 1) k hk]
    exact Below.heap_setCell w ⟨g, o, none⟩ v k hk
theorem qBk (g : Nat) : ∀ (vs : List Value) (o : Nat) (w : World), (w.setCells g o vs).os = w.os ∧ (w.setCells g o vs).tape = w.tape ∧ (w.setCells g o vs).output = w.output ∧ (w.setCells g o vs).heap.size = w.heap.size
  | [], _, _ => ⟨rfl, rfl, rfl, rfl⟩
  | v :: r, o, w => by
    obtain ⟨h1, h2, h3, h4⟩ := qBk g r (o + 1) (w.setCell ⟨g, o, none⟩ v)
    rw [World.setCells]
    exact ⟨h1, h2, h3, by rw [h4]; simp [World.setCell]⟩
theorem qBz {g : Nat} {e : TypeId} : ∀ (vs : List Value) (o : Nat) (w : World) (cur : Array Value), w.heap[g]? = some (.cells cur e (0, 0)) → o + vs.length ≤ cur.size →
    ∃ cur', (w.setCells g o vs).heap[g]? = some (.cells cur' e (0, 0)) ∧ cur'.size = cur.size ∧ cur'.toList = cur.toList.take o ++ vs ++ cur.toList.drop (o + vs.length)
  | [], o, w, cur, h, _ => ⟨cur, h, rfl, by simp⟩
  | v :: r, o, w, cur, h, hl => by
    have h2 := qE6 h o v
    simp only [List.length_cons] at hl
    obtain ⟨cur', h3, h4, h5⟩ := qBz r (o + 1) (w.setCell ⟨g, o, none⟩ v) _ h2 (by simp; omega)
    refine ⟨cur', h3, by rw [h4]; simp, ?_⟩
    rw [h5, Array.toList_setIfInBounds]
    have ho : o < cur.toList.length := by rw [Array.length_toList]; omega
    rw [List.take_set, List.drop_set_of_lt (by omega)]
    simp only [List.length_cons]
    rw [show o + 1 + r.length = o + (r.length + 1) by omega]
    congr 1
    rw [List.take_succ_eq_append_getElem ho, List.set_append_right _ _ (by rw [List.length_take]; omega)]
    have ho' : o < cur.size := by omega
    simp [Nat.min_eq_left (Nat.le_of_lt ho')]
end
theorem seg_get {α : Type} (a seg : List α) (o : Nat) (h : o + seg.length ≤ a.length) (q : Nat) :
    (a.take o ++ seg ++ a.drop (o + seg.length))[q]? = if q < o then a[q]? else if q < o + seg.length then seg[q - o]? else a[q]? := by
  have hl : (a.take o).length = o := by rw [List.length_take]; omega
  rw [List.append_assoc]
  by_cases h1 : q < o
  · rw [if_pos h1, List.getElem?_append_left (by omega), List.getElem?_take, if_pos h1]
  · rw [if_neg h1, List.getElem?_append_right (by omega), hl]
    by_cases h2 : q < o + seg.length
    · rw [if_pos h2, List.getElem?_append_left (by omega)]
    · rw [if_neg h2, List.getElem?_append_right (by omega), List.getElem?_drop]
      congr 1
      omega
namespace Kd
section
variable {α : Type} {d : Kd α} {e base g n cap : Nat} {ok okp : Nat → Prop} {W : World} {xs : List α}
theorem R_elem (h : d.R e W base ok (.slice (some ⟨g, 0, none⟩) n cap) xs) (z : α) (i : Int) (h0 : 0 ≤ i) (h1 : i < n) :
    ∃ c, c.length = d.sz ∧ d.M W base (fun k => ok k ∧ k ≠ g) (xs.getD i.toNat z) c ∧ (∀ j u, c[j]? = some u → W.cell? ⟨g, i.toNat * d.sz + j, none⟩ = some u) ∧ ∀ j, W.frozen? ⟨g, i.toNat * d.sz + j, none⟩ = false := by
  obtain ⟨hn, hnc, hC⟩ := R_reads' h
  obtain ⟨_, inner, ho, hr⟩ := h
  have hil : i.toNat < xs.length := by omega
  have hseg : i.toNat * d.sz + d.sz ≤ inner.length := by rw [hr.1, ← Nat.succ_mul]; exact Nat.mul_le_mul_right _ hil
  have hM := hr.2 i.toNat _ (List.getElem?_eq_getElem hil)
  refine ⟨(inner.drop (i.toNat * d.sz)).take d.sz, by rw [List.length_take, List.length_drop]; omega, ?_, fun j u hu => ?_, fun j => ?_⟩
  · rw [List.getD_eq_getElem?_getD, List.getElem?_eq_getElem hil]
    exact d.M_mono (fun k hk => ⟨hk.1, fun he => hk.2 (by rw [he]; simp [Value.ownBlock])⟩) hM
  · rw [List.getElem?_take] at hu
    split at hu
    · rw [List.getElem?_drop] at hu
      have := ho.cells (g := g) (by simp [Value.ownBlock]) _ u hu
      rwa [qAx] at this
    · cases hu
  · obtain ⟨cells, hc⟩ := qB6 ho g (by simp [Value.ownBlock])
    exact qA2 hc _
theorem R_seg (h : d.R e W base ok (.slice (some ⟨g, 0, none⟩) n cap) xs) (i : Int) (h0 : 0 ≤ i) (h1 : i < n) {c seg : List Value} {j : Nat} (hcl : c.length = d.sz) (hcc : ∀ j u, c[j]? = some u → W.cell? ⟨g, i.toNat * d.sz + j, none⟩ = some u)
    (hj : j + seg.length ≤ d.sz) {x' : α} (hM : d.M W base okp x' (c.take j ++ seg ++ c.drop (j + seg.length))) (hokp : ∀ k, okp k → ok k ∧ k ≠ g) :
    d.R e (W.setCells g (i.toNat * d.sz + j) seg) base ok (.slice (some ⟨g, 0, none⟩) n cap) (xs.set i.toNat x') ∧ W.grownBy (W.setCells g (i.toNat * d.sz + j) seg) (some g) := by
  obtain ⟨hn, hnc, _⟩ := R_reads' h
  obtain ⟨hok, inner, ho, hr⟩ := h
  have hil : i.toNat < xs.length := by omega
  have hseg : i.toNat * d.sz + d.sz ≤ inner.length := by rw [hr.1, ← Nat.succ_mul]; exact Nat.mul_le_mul_right _ hil
  have hin : inner.length = n * d.sz := by rw [hr.1, hn]
  obtain ⟨ho1, ho2⟩ := ho
  rcases ho2 with ⟨hv, _⟩ | ⟨g', cap', cur, hv, hb, hh, hnc', hcm, hcs, ht⟩
  · cases hv
  injection hv with ha _ hc
  injection ha with ha
  injection ha with hg
  subst hg; subst hc
  have hfit : i.toNat * d.sz + j + seg.length ≤ cur.size := by
    have : n * d.sz ≤ cap * d.sz := Nat.mul_le_mul_right _ hnc
    omega
  obtain ⟨cur', h3, h4, h5⟩ := qBz seg (i.toNat * d.sz + j) W cur hh hfit
  obtain ⟨s1, s2, s3, s4⟩ := qBk g seg (i.toNat * d.sz + j) W
  have hfar : ∀ k, k ≠ g → (W.setCells g (i.toNat * d.sz + j) seg).heap[k]? = W.heap[k]? := fun k hk => qB0 seg _ k hk
  have hcin : ∀ q, q < d.sz → c[q]? = inner[i.toNat * d.sz + q]? := by
    intro q hq
    have hq' : q < c.length := by omega
    have h6 := hcc q _ (List.getElem?_eq_getElem hq')
    rw [cell_of_row W g _ cur e (0, 0) hh] at h6
    rw [List.getElem?_eq_getElem hq', ← h6, ← ht, List.getElem?_take, if_pos (by rw [← hn]; omega), Array.getElem?_toList]
  refine ⟨⟨hok, inner.take (i.toNat * d.sz + j) ++ seg ++ inner.drop (i.toNat * d.sz + j + seg.length), ⟨?_, .inr ⟨g, cap, cur', by rw [List.length_set, hn], hb, h3, by rw [List.length_set, ← hn]; exact hnc, hcm, by rw [h4, hcs], ?_⟩⟩, ?_⟩,
    ⟨s1, s2, s3, by rw [s4]; exact Nat.le_refl _, fun k _ hk => hfar k (fun he => hk (by rw [he]))⟩⟩
  · rw [List.length_set]
    simp only [List.length_append, List.length_take, List.length_drop]
    rw [hr.1] at hseg ⊢
    omega
  · rw [List.length_set, ← hn]
    apply List.ext_getElem?
    intro q
    rw [List.getElem?_take, h5]
    rw [seg_get cur.toList seg (i.toNat * d.sz + j) (by rw [Array.length_toList]; omega) q, seg_get inner seg (i.toNat * d.sz + j) (by omega) q]
    have hcur : ∀ q, q < n * d.sz → cur.toList[q]? = inner[q]? := by
      intro q hq
      rw [← ht, List.getElem?_take, if_pos (by rw [← hn]; exact hq)]
    by_cases hq : q < n * d.sz
    · rw [if_pos hq, hcur q hq]
    · rw [if_neg hq, if_neg (by omega), if_neg (by omega), List.getElem?_eq_none (by omega)]
  · refine ⟨?_, fun m p hm => ?_⟩
    · rw [List.length_set]
      simp only [List.length_append, List.length_take, List.length_drop]
      rw [hr.1] at hseg ⊢
      omega
    · have hml : m < xs.length := by
        have := (List.getElem?_eq_some_iff.1 hm).1
        rwa [List.length_set] at this
      have hmfit : m * d.sz + d.sz ≤ inner.length := by rw [hr.1, ← Nat.succ_mul]; exact Nat.mul_le_mul_right _ hml
      have hgo : some g = (Value.slice (some ⟨g, 0, none⟩) n cap).ownBlock := by simp [Value.ownBlock]
      by_cases hmi : m = i.toNat
      · subst hmi
        rw [List.getElem?_set_self (by omega)] at hm
        injection hm with hm
        subst hm
        have hcells : ((inner.take (i.toNat * d.sz + j) ++ seg ++ inner.drop (i.toNat * d.sz + j + seg.length)).drop (i.toNat * d.sz)).take d.sz = c.take j ++ seg ++ c.drop (j + seg.length) := by
          apply List.ext_getElem?
          intro q
          rw [List.getElem?_take, List.getElem?_drop, seg_get inner seg _ (by omega), seg_get c seg j (by omega) q]
          by_cases hq : q < d.sz
          · rw [if_pos hq, hcin q hq]
            by_cases hq1 : q < j
            · rw [if_pos (by omega), if_pos hq1]
            · rw [if_neg (by omega), if_neg hq1]
              by_cases hq2 : q < j + seg.length
              · rw [if_pos (by omega), if_pos hq2]
                congr 1
                omega
              · rw [if_neg (by omega), if_neg hq2]
          · rw [if_neg hq, if_neg (by omega), if_neg (by omega), List.getElem?_eq_none (by omega)]
        rw [hcells]
        refine d.M_mono (fun k hk => ?_) (d.M_move (w1 := W.setCells g (i.toNat * d.sz + j) seg) (fun k hk => hfar k (hokp k hk).2) hM)
        exact ⟨(hokp k hk).1, fun he => (hokp k hk).2 (by rw [← hgo] at he; injection he)⟩
      · rw [List.getElem?_set_ne (by omega)] at hm
        have hold := hr.2 m p hm
        have hcells : ((inner.take (i.toNat * d.sz + j) ++ seg ++ inner.drop (i.toNat * d.sz + j + seg.length)).drop (m * d.sz)).take d.sz = (inner.drop (m * d.sz)).take d.sz := by
          apply List.ext_getElem?
          intro q
          rw [List.getElem?_take, List.getElem?_take, List.getElem?_drop, List.getElem?_drop, seg_get inner seg _ (by omega)]
          by_cases hq : q < d.sz
          · rw [if_pos hq, if_pos hq]
            rcases Nat.lt_or_gt_of_ne hmi with hlt | hgt
            · have : m * d.sz + d.sz ≤ i.toNat * d.sz := by rw [← Nat.succ_mul]; exact Nat.mul_le_mul_right _ hlt
              rw [if_pos (by omega)]
            · have : i.toNat * d.sz + d.sz ≤ m * d.sz := by rw [← Nat.succ_mul]; exact Nat.mul_le_mul_right _ hgt
              rw [if_neg (by omega), if_neg (by omega)]
          · rw [if_neg hq, if_neg hq]
        rw [hcells]
        refine d.M_move (fun k hk => hfar k (fun he => hk.2 (by rw [he]; exact hgo))) hold
end
end Kd
theorem qAg {w W : World} (h : Below w.heap.size w W) : w.heap.size ≤ W.heap.size := h.size
theorem qAd {w W w2 : World} (h : Below w.heap.size w W) (k : Below W.heap.size W w2) : Below w.heap.size w w2 := qD5 h h.size k
theorem qDb {w W : World} {g j : Nat} {v : Value} (h : Below w.heap.size w W) (hg : w.heap.size ≤ g) : Below w.heap.size w (W.setCell ⟨g, j, none⟩ v) := h.setCell hg _
theorem qAc {base : Nat} {w W : World} (h : Below base w W) : Below base w W.drew := h.drew
section
variable {P : Program} {ops : Array Oper} {rest : List Oper} {o : Oper} {a : Act} {Q : Exit → Act → World → Prop}
theorem qDe {W w1 : World} (hgd : o.guard = none) {t : TypeId} {p : Tmp} {v : Operand} (_ho : o.op = .store t (.tmp p) v) (hN : o.dst = none)
    (hrun : (execOp a.eval o).run P W = .ok .skip w1) (h : ∀ w', w' = w1 → wpList P ops Q rest a w') : wpList P ops Q (o :: rest) a W := by
  refine wpList_plain hgd fun K hK => ?_
  unfold Oper.wp
  rw [hrun]
  show K (a.put o.dst undef) w1
  rw [hN]
  exact hK _ _ (h _ rfl)
end
section
variable {P : Program} {ops : Array Oper} {rest : List Oper} {o : Oper} {a : Act} {Q : Exit → Act → World → Prop} {W : World}
theorem qD4 {t : TypeId} {p : Tmp} {v : Operand} (_ho : o.op = .store t (.tmp p) v) (h : wpList P ops Q (o :: rest) a W) : wpList P ops Q (o :: rest) a W := h
end
end Go.Proofs.YtbnoihpooeombaaDoorW.PrintWords

namespace Go.Proofs.YtbnoihpooeombaaDoorW.PrintLast
section
variable {P : Program} {ops : Array Oper} {Q : Exit → Act → World → Prop} {md : Region.Mode} {S : World → Prop} {ds : List Nat}
theorem qE2 {f : FuncId} {fn : Func} (hf : P.funcs[f]? = some fn) (hname : (fn.name == "runtime.NumGoroutine") = false) (hb : fn.body.isSome = true) (args : Array Value) (w : World) : (callFunc f args).run P w = .ok (.enter f args) w := by
  have h1 : fn.name ≠ "runtime.NumGoroutine" := by simpa using hname
  obtain ⟨c, hc⟩ := Option.isSome_iff_exists.1 hb
  simp [callFunc, hf, h1, hc]
theorem goesL_ {rest : List Oper} {oi : Oper} {a : Act} {w : World} (N : Option Tmp) (hd : oi.dst = N) (hg : oi.guard = none) {f : FuncId} {fn : Func} {as_ : Array Operand} {ts : Array TypeId} (hf : P.funcs[f]? = some fn) (hname : (fn.name == "runtime.NumGoroutine") = false) (hb : fn.body.isSome = true) (args : Array Value)
    (hop : oi.op = .call { callee := .value (.func f), args := as_, argTypes := ts }) (hargs : as_.map a.eval = args)
    (h : Calls P f args w fun e w' => ∃ v, e = .returned v ∧ wpList P ops Q rest (a.put N v) w') : wpList P ops Q (oi :: rest) a w := by
  refine wpList_plain hg fun K hK => ?_
  have he := qE2 hf hname hb args w
  have hrun : (execOp a.eval oi).run P w = .ok (.enter f args) w := by
    unfold execOp
    simp [hop, resolve, Deferred.ofValue, invoke, Act.eval, hargs, he]
  unfold Oper.wp
  rw [hrun, Oper.upon_enter]
  refine h.mono fun e w'' hh => ?_
  obtain ⟨v, rfl, hk⟩ := hh
  subst hd
  exact hK _ _ hk
theorem i64_w (n : Int) : IntKind.i64.wrap n = Go.RowKit.wrap64 n := by unfold Go.RowKit.wrap64; exact IntKind.wrap_i64 n
theorem i32_w (n : Int) : IntKind.i32.wrap n = Go.RowKit.wrap32 n := by unfold Go.RowKit.wrap32; exact IntKind.wrap_i32 n
end
end Go.Proofs.YtbnoihpooeombaaDoorW.PrintLast

namespace Go.Proofs.YtbnoihpooeombaaDoorW.PrintWords
open Go.RowKit
def Kept (w W : World) (S : Nat → Prop) : Prop := w.heap.size ≤ W.heap.size ∧ ∀ i, i < w.heap.size → ¬ S i → W.heap[i]? = w.heap[i]?
section
variable {w W W2 : World} {S S2 S' : Nat → Prop}
theorem Kept.refl (w : World) (S : Nat → Prop) : Kept w w S := ⟨Nat.le_refl _, fun _ _ _ => rfl⟩
theorem Kept.then_ (h : Kept w W S) (k : Kept W W2 S2) (hs : ∀ k, S2 k → S k ∨ w.heap.size ≤ k) : Kept w W2 S :=
  ⟨Nat.le_trans h.1 k.1, fun i hi hn => (k.2 i (Nat.lt_of_lt_of_le hi h.1) (fun h2 => (hs i h2).elim hn (fun h3 => by omega))).trans (h.2 i hi hn)⟩
theorem Kept.of_grown {row : Option Nat} (hg : W.grownBy W2 row) (h : Kept w W S) (hr : ∀ k, row = some k → S k ∨ w.heap.size ≤ k) : Kept w W2 S :=
  h.then_ (S2 := fun k => row = some k) ⟨hg.size, fun i hi hn => hg.block i hi (fun he => hn he.symm)⟩ hr
end
end Go.Proofs.YtbnoihpooeombaaDoorW.PrintWords

namespace Go.Proofs.YtbnoihpooeombaaDoorW.PrintWords
open Go.RowKit
section
variable {P : Program} {ops : Array Oper} {rest : List Oper} {o : Oper} {a : Act} {Q : Exit → Act → World → Prop} {W : World}
theorem qA5 {f : FuncId} {as_ : Array Operand} {ts : Array TypeId} (_ho : o.op = .call { callee := .value (.func f), args := as_, argTypes := ts }) (h : wpList P ops Q (o :: rest) a W) : wpList P ops Q (o :: rest) a W := h
theorem qB2 {b : Builtin} {xs : Array Operand} {ts : Array TypeId} (_ho : o.op = .call { callee := .builtin b, args := xs, argTypes := ts }) (h : wpList P ops Q (o :: rest) a W) : wpList P ops Q (o :: rest) a W := h
end
def shl (k : IntKind) (x y : Int) : Int := k.wrap (x * 2 ^ min y.toNat k.bits)
def shr (k : IntKind) (x y : Int) : Int := x / 2 ^ min y.toNat k.bits
theorem qD8 {k : IntKind} {x y j : Int} (h : shr k x y = j) (hy : y ≤ k.bits) : x / 2 ^ y.toNat = j := by rw [← h]; unfold shr; rw [Nat.min_eq_left (by omega)]
end Go.Proofs.YtbnoihpooeombaaDoorW.PrintWords

namespace Go.Proofs.YtbnoihpooeombaaDoor.X
open Go.RowKit Go.Proofs.YtbnoihpooeombaaDoorW.PrintWords
structure Tabs (w : World) : Prop where
  t16 : w.cell? ⟨3, 15, none⟩ = some (.int .u8 4)
  t8 : w.cell? ⟨3, 7, none⟩ = some (.int .u8 3)
  pow : Lib.TabIs Tryd.prog w "internal/strconv.uint64pow10" .u64 Lib.pow10Tab
  maxl : ∃ m : Int, w.cell? ⟨1, 0, none⟩ = some (.int .i64 m)
theorem qDd {P : Program} {w w1 : World} {n : String} {k : IntKind} {zs : List Int} (h : Lib.TabIs P w n k zs) (hb : Below w.heap.size w w1) : Lib.TabIs P w1 n k zs := by
  unfold Lib.TabIs World.var? at h ⊢
  cases hg : P.globalNamed n with
  | none => simp [hg] at h
  | some g =>
    simp only [hg, Option.bind_some] at h ⊢
    have hlt : g < w.heap.size := by
      rcases Nat.lt_or_ge g w.heap.size with h' | h'
      · exact h'
      · simp [Array.getElem?_eq_none h'] at h
    rw [hb.block g hlt]
    exact h
theorem Tabs.below {w w1 : World} (h : Tabs w) (hb : Below w.heap.size w w1) : Tabs w1 where
  t16 := qAe hb h.t16
  t8 := qAe hb h.t8
  pow := qDd h.pow hb
  maxl := let ⟨m, hm⟩ := h.maxl; ⟨m, qAe hb hm⟩
theorem qAk {P : Program} {ops : Array Oper} {rest : List Oper} {o : Oper} {a : Act} {Q : Exit → Act → World → Prop} {W : World} (hgd : o.guard = none) (s x : Operand) (t u : TypeId)
    (ho : o.op = .call { callee := .builtin .append, args := #[s, x], argTypes := #[t, u] }) (v1 v2 v : Value) (W2 : World) (hs : a.eval s = v1) (hx : a.eval x = v2)
    (hr : (Builtin.append_ #[t, u] o.type #[v1, v2]).run P W = .ok v W2) (h : wpList P ops Q rest (a.put o.dst v) W2) : wpList P ops Q (o :: rest) a W :=
  wpList_plain hgd fun K hK => by
    unfold Oper.wp execOp
    simp only [ho, resolve, invoke, builtin, Sem.run_bind, Sem.run_pure, Result.andThen_ok, List.map_toArray, List.map_cons, List.map_nil, hs, hx, hr]
    exact hK _ _ h
end Go.Proofs.YtbnoihpooeombaaDoor.X

namespace Go.Proofs
open Go.Shelf
def Tryd.lays105_ren : Go.Shelf.Ren := ⟨fun | 105 => 90 | 212 => 105 | 99 => 106 | 165 => 95 | 166 => 96 | 170 => 107 | 169 => 97 | 263 => 118 | 264 => 119 | 206 => 120 | 240 => 109 | 241 => 110 | 276 => 121 | 277 => 122 | n => n, fun | 9 => 9 | 3 => 3 | 4 => 4 | 20 => 20 | 0 => 0 | 46 => 89 | 109 => 129 | 5 => 5 | 72 => 121 | 76 => 125 | 51 => 140 | 146 => 141 | 53 => 96 | 148 => 143 | 70 => 119 | 37 => 78 | 75 => 124 | 127 => 132 | 164 => 145 | 80 => 127 | n => n, fun | n => n⟩
theorem Tryd.lays105 : Go.Proofs.Lays.n105 Tryd.prog Tryd.lays105_ren := {
  mixed := by kernel_rfl
  f99 := Tryd.func106.trans (congrArg some (by kernel_rfl))
  f105 := Tryd.func90.trans (congrArg some (by kernel_rfl))
  f165 := Tryd.func95.trans (congrArg some (by kernel_rfl))
  f166 := Tryd.func96.trans (congrArg some (by kernel_rfl))
  f169 := Tryd.func97.trans (congrArg some (by kernel_rfl))
  f170 := Tryd.func107.trans (congrArg some (by kernel_rfl))
  f206 := Tryd.func120.trans (congrArg some (by kernel_rfl))
  f212 := Tryd.func105.trans (congrArg some (by kernel_rfl))
  f240 := Tryd.func109.trans (congrArg some (by kernel_rfl))
  f241 := Tryd.func110.trans (congrArg some (by kernel_rfl))
  f263 := Tryd.func118.trans (congrArg some (by kernel_rfl))
  f264 := Tryd.func119.trans (congrArg some (by kernel_rfl))
  f276 := Tryd.func121.trans (congrArg some (by kernel_rfl))
  f277 := Tryd.func122.trans (congrArg some (by kernel_rfl))
  t0 := Tryd.underlying0
  a0 := Tryd.isAgg0
  z0 := Tryd.sizeOf0
  v0 := Tryd.zeroValue0
  t3 := Tryd.underlying3
  a3 := Tryd.isAgg3
  z3 := Tryd.sizeOf3
  v3 := Tryd.zeroValue3
  t4 := Tryd.underlying4
  a4 := Tryd.isAgg4
  z4 := Tryd.sizeOf4
  v4 := Tryd.zeroValue4
  t5 := Tryd.underlying5
  a5 := Tryd.isAgg5
  z5 := Tryd.sizeOf5
  v5 := Tryd.zeroValue5
  t9 := Tryd.underlying9
  a9 := Tryd.isAgg9
  z9 := Tryd.sizeOf9
  v9 := Tryd.zeroValue9
  t20 := Tryd.underlying20
  a20 := Tryd.isAgg20
  z20 := Tryd.sizeOf20
  v20 := Tryd.zeroValue20
  t37 := Tryd.underlying78
  a37 := Tryd.isAgg78
  z37 := Tryd.sizeOf78
  v37 := Tryd.zeroValue78
  t46 := Tryd.underlying89
  a46 := Tryd.isAgg89
  z46 := Tryd.sizeOf89
  v46 := Tryd.zeroValue89
  t51 := Tryd.underlying140
  a51 := Tryd.isAgg140
  z51 := Tryd.sizeOf140
  v51 := Tryd.zeroValue140
  t53 := Tryd.underlying96
  a53 := Tryd.isAgg96
  z53 := Tryd.sizeOf96
  v53 := Tryd.zeroValue96
  t70 := Tryd.underlying119
  a70 := Tryd.isAgg119
  z70 := Tryd.sizeOf119
  v70 := Tryd.zeroValue119
  t72 := Tryd.underlying121
  a72 := Tryd.isAgg121
  z72 := Tryd.sizeOf121
  v72 := Tryd.zeroValue121
  t75 := Tryd.underlying124
  a75 := Tryd.isAgg124
  z75 := Tryd.sizeOf124
  v75 := Tryd.zeroValue124
  t76 := Tryd.underlying125
  a76 := Tryd.isAgg125
  z76 := Tryd.sizeOf125
  v76 := Tryd.zeroValue125
  t109 := Tryd.underlying129
  a109 := Tryd.isAgg129
  z109 := Tryd.sizeOf129
  v109 := Tryd.zeroValue129
  t127 := Tryd.underlying132
  a127 := Tryd.isAgg132
  z127 := Tryd.sizeOf132
  v127 := Tryd.zeroValue132
  t146 := Tryd.underlying141
  a146 := Tryd.isAgg141
  z146 := Tryd.sizeOf141
  v146 := Tryd.zeroValue141
  t148 := Tryd.underlying143
  a148 := Tryd.isAgg143
  z148 := Tryd.sizeOf143
  v148 := Tryd.zeroValue143
  t164 := Tryd.underlying145
  a164 := Tryd.isAgg145
  z164 := Tryd.sizeOf145
  v164 := Tryd.zeroValue145 }
theorem Tryd.Builder_Extra_105 : Builder.Extra Tryd.prog Tryd.lays105_ren := {
  sizeBuilder := by kernel_rfl
  liesBuilder := by kernel_rfl
  t5 := Tryd.underlying5
  a5 := Tryd.isAgg5
  z5 := Tryd.sizeOf5
  v5 := Tryd.zeroValue5
  infoByte := by kernel_rfl
  cellsByte := by kernel_rfl
  sizeByte := by kernel_rfl
  neB5 := by decide }
open Go.RowKit Go.Lib in
theorem Tryd.strings_Repeat (s : ByteArray) (c : Nat) (w : World) (hc : c ≤ 9223372036854775807) (hlen : s.size * c ≤ 140737488355328) :
    Calls Tryd.prog 90 #[.string s, .int .i64 c] w fun e w' => e = .returned (.string ⟨(Lib.repeatL s.data.toList c).toArray⟩) ∧ Below w.heap.size w w' := Any.strings_Repeat Tryd.lays105 Tryd.Builder_Extra_105 s c w hc hlen
end Go.Proofs

namespace Go.Proofs.YtbnoihpooeombaaDoor.X
open Go.RowKit Go.Proofs.YtbnoihpooeombaaDoorW.PrintWords
set_option linter.unusedVariables false
theorem own : ownKnob Tryd.prog.godebug = none := by kernel_rfl
theorem qE1 : laidOutB Tryd.prog = true := by kernel_rfl
theorem qC6 {P : Program} {W : World} {x : String × DataW Unit} {rest : List (String × DataW Unit)} (h : laidMet P (x :: rest) W) : laidMet P rest W := by
  obtain ⟨ps, hv, hn, hc⟩ := h
  obtain ⟨name, d⟩ := x
  obtain ⟨g, t, cs, fuel, p, q, hg, ht, hvar, hd, hr, rfl⟩ := hv
  exact ⟨q, hr, (List.nodup_append.1 hn).2.1, fun b off hm => hc b off (List.mem_append_right _ hm)⟩
def deB64 : List Int := [0, 1, 56, 2, 57, 49, 28, 3, 61, 58, 42, 50, 38, 29, 17, 4, 62, 47, 59, 36, 45, 43, 51, 22, 53, 39, 33, 30, 24, 18, 12, 5, 63, 55, 48, 27, 60, 41, 37, 16, 46, 35, 44, 21, 52, 32, 23, 11, 54, 26, 40, 15, 34, 20, 31, 10, 25, 14, 19, 9, 13, 8, 7, 6]
def qDr : List (String × DataW Unit) := [("math/bits.deBruijn32tab", Rows.laid_math_bits_deBruijn32tab), ("math/bits.deBruijn64tab", Rows.laid_math_bits_deBruijn64tab), ("internal/strconv.uint64pow10", Rows.laid_internal_strconv_uint64pow10)]
theorem qEw {W : World} (h : laidMetH Tryd.prog qDr W) (hsh : W.ShapedOpen Tryd.prog) : Tabs W := by
  have h0 : laidMet Tryd.prog qDr W := h
  have h1 := qC6 h0
  have h2 := qC6 h1
  have t64 : Lib.TabIs Tryd.prog W "math/bits.deBruijn64tab" .u8 deB64 :=
    Lib.tabIs_of_head (t := 156) (e := 5) (n := 64) (g := 3) (by kernel_rfl) (by kernel_rfl) Tryd.underlying156 Tryd.underlying5 (by kernel_rfl) (by kernel_rfl) h1
  have t10 : Lib.TabIs Tryd.prog W "internal/strconv.uint64pow10" .u64 Lib.pow10Tab :=
    Lib.tabIs_of_head (t := 150) (e := 96) (n := 20) (g := 0) (by kernel_rfl) (by kernel_rfl) Tryd.underlying150 Tryd.underlying96 (by kernel_rfl) (by kernel_rfl) h2
  exact ⟨t64.cell (g := 3) (by kernel_rfl) 15 (by decide), t64.cell (g := 3) (by kernel_rfl) 7 (by decide), t10, cell_of_shapedOpen_int (zero := #[.int .i64 0]) (t := 3) hsh (of_decide_eq_true (by kernel_rfl)) (by kernel_rfl) rfl (by kernel_rfl) (by kernel_rfl) Tryd.underlying3⟩
noncomputable def qCb (os : Os) : World := World.doorLaid Tryd.prog 400 os
end Go.Proofs.YtbnoihpooeombaaDoor.X

namespace Go.Proofs.YtbnoihpooeombaaDoor.X
open Go.RowKit
set_option linter.unusedVariables false
set_option linter.unusedSimpArgs false
def dch (k : Nat) : UInt8 := if k < 10 then UInt8.ofNat (48 + k) else UInt8.ofNat (87 + k)
def qAi (b : Nat) (u : Nat) : List UInt8 := if h : u < b ∨ b < 2 then [dch u] else qAi b (u / b) ++ [dch (u % b)]
termination_by u
decreasing_by
  have : ¬ u < b := fun x => h (.inl x)
  have : ¬ b < 2 := fun x => h (.inr x)
  exact Nat.div_lt_self (by omega) (by omega)
theorem qBh {b u : Nat} (h : u < b) : qAi b u = [dch u] := by unfold qAi; rw [dif_pos (.inl h)]
theorem qCf {b u : Nat} (h : b ≤ u) (hb : 2 ≤ b) : qAi b u = qAi b (u / b) ++ [dch (u % b)] := by
  rw [qAi]; rw [dif_neg (by omega)]
structure Box (C : Array Value) (ds : List UInt8) : Prop where
  size : C.size = 65
  len : ds.length ≤ 65
  old : ∀ j, j < 65 → ∃ z : Int, C[j]? = some (.int .u8 z)
  new : ∀ j (h : j < ds.length), C[65 - ds.length + j]? = some (.int .u8 (ds[j].toNat))
theorem qEl {C : Array Value} {ds : List UInt8} (h : Box C ds) (hl : ds.length < 65) (x : UInt8) : Box (C.setIfInBounds (64 - ds.length) (.int .u8 (x.toNat : Int))) (x :: ds) := by
  refine ⟨by simp [h.size], by simp; omega, ?_, ?_⟩
  · intro j hj
    by_cases e : 64 - ds.length = j
    · subst e; exact ⟨(x.toNat : Int), by rw [Array.getElem?_setIfInBounds]; simp [h.size]; omega⟩
    · obtain ⟨z, hz⟩ := h.old j hj
      exact ⟨z, by rw [Array.getElem?_setIfInBounds_ne (by omega)]; exact hz⟩
  · intro j hj
    cases j with
    | zero =>
      have e : 65 - (x :: ds).length + 0 = 64 - ds.length := by simp only [List.length_cons]; omega
      rw [e, Array.getElem?_setIfInBounds]
      simp [h.size]; omega
    | succ j =>
      have hj' : j < ds.length := by simpa using hj
      have := h.new j hj'
      rw [show 65 - (x :: ds).length + (j + 1) = 65 - ds.length + j by simp only [List.length_cons]; omega]
      rw [Array.getElem?_setIfInBounds_ne (by omega)]
      simpa using this
abbrev digs : ByteArray := ⟨#[48, 49, 50, 51, 52, 53, 54, 55, 56, 57, 97, 98, 99, 100, 101, 102, 103, 104, 105, 106, 107, 108, 109, 110, 111, 112, 113, 114, 115, 116, 117, 118, 119, 120, 121, 122]⟩
theorem qEh (k : Nat) (hk : k < 36) (h : k < digs.size) : digs[k] = dch k := by
  have : ∀ j : Fin 36, digs[j.val]'(by have := j.2; exact this) = dch j.val := by decide +kernel
  exact this ⟨k, hk⟩
theorem room_ (u v m : Nat) (hu : u < 18446744073709551616) (h : v * 2 ^ m ≤ u) (hv : 1 ≤ v) : m < 64 := by
  rcases Nat.lt_or_ge m 64 with h1 | h1
  · exact h1
  · have : 2 ^ 64 ≤ 2 ^ m := Nat.pow_le_pow_right (by omega) h1
    have : 1 * 2 ^ m ≤ v * 2 ^ m := Nat.mul_le_mul_right _ hv
    omega
end Go.Proofs.YtbnoihpooeombaaDoor.X

namespace Go.Proofs.YtbnoihpooeombaaDoor.X
open Go.RowKit Go.Proofs.YtbnoihpooeombaaDoorW.PrintWords
set_option linter.unusedVariables false
set_option linter.unusedSimpArgs false
theorem qDc {i : Int} {n : Nat} (h0 : 0 ≤ i) (h : i < (n : Int)) (hn : n ≤ 9223372036854775807) : wrap64 (i + 1) = i + 1 := by
  unfold wrap64
  omega
theorem qCj (xs : List Int) (j : Nat) (h : j < xs.length) : rd xs (j : Int) = xs[j] := by
  simp [rd, List.getD_eq_getElem?_getD, h]
theorem qB1 : ∀ n, Lib.repeatL [48] n = List.replicate n (dch 0)
  | 0 => rfl
  | n + 1 => by rw [Lib.repeatL, qB1 n, List.replicate_succ]; rfl
theorem qD7 (l : List UInt8) : (⟨l.toArray⟩ : ByteArray).size = l.length := by simp [ByteArray.size]
theorem qEn (l m : List UInt8) : (⟨l.toArray⟩ : ByteArray) ++ ⟨m.toArray⟩ = ⟨(l ++ m).toArray⟩ := by
  apply ByteArray.ext
  simp
theorem qDx (l : List UInt8) : strOfNums (l.map fun b => (b.toNat : Int)) = ⟨l.toArray⟩ := by
  unfold strOfNums
  congr 2
  simp [List.map_map, Function.comp_def]
theorem wrap_i (i n : Nat) (h : i < n) (hn : n ≤ 9223372036854775807) : wrap64 ((i : Int) + 1) = ((i + 1 : Nat) : Int) := by unfold wrap64; omega
end Go.Proofs.YtbnoihpooeombaaDoor.X

namespace Go.Proofs.YtbnoihpooeombaaDoorW.PrintWords
open Go.RowKit
section
variable {P : Program} {d : Nat} {xs ys : Array Value} {f : Field} {fs : List Field} {a b : Value} {r s : Bool} {w : World}
theorem qEu (hn : (f.name == "_") = false) (ha : (part f.type xs f.offset).run P w = .ok a w) (hb : (part f.type ys f.offset).run P w = .ok b w) (he : (Op.equalIn d f.type a b).run P w = .ok r w) : (Op.eqFields d xs ys [f]).run P w = .ok r w := by
  have hn' : f.name ≠ "_" := by simpa using hn
  simp only [Op.eqFields, if_pos hn', Sem.run_bind, ha, hb, he, Result.andThen_ok]
  cases r <;> simp
theorem qEv (hn : (f.name == "_") = false) (ha : (part f.type xs f.offset).run P w = .ok a w) (hb : (part f.type ys f.offset).run P w = .ok b w) (he : (Op.equalIn d f.type a b).run P w = .ok r w) (hr : (Op.eqFields d xs ys fs).run P w = .ok s w) : (Op.eqFields d xs ys (f :: fs)).run P w = .ok (r && s) w := by
  have hn' : f.name ≠ "_" := by simpa using hn
  rw [Op.eqFields]
  simp only [if_pos hn', Sem.run_bind, ha, hb, he, Result.andThen_ok]
  cases r
  · simp
  · simpa using hr
theorem eqA_of {t : TypeId} {fs : Array Field} (hu : P.underlying t = some (.struct fs)) (hp : P.stoodInHeld t = false) (h : (Op.eqFields d xs ys fs.toList).run P w = .ok r w) : (Op.equalIn (d + 1) t (.agg xs) (.agg ys)).run P w = .ok r w := by
  have hf : P.fieldsOf t = fs := by simp [Program.fieldsOf, hu]
  rw [run_equalIn_struct (P := P) w d t xs ys (by rw [hf]; exact hu) hp, hf]
  exact h
end
end Go.Proofs.YtbnoihpooeombaaDoorW.PrintWords

namespace Go.Proofs.YtbnoihpooeombaaDoorW.PrintWords
theorem Reps.front {α : Type} {R : α → List Value → Prop} {size : Nat} {ps : List α} {cs c all : List Value} {p : α} (hp : R p c) (hc : c.length = size) (h : Reps R size ps cs) (ha : c ++ cs = all) : Reps R size (p :: ps) all := by
  subst ha
  refine ⟨by rw [List.length_append, hc, h.1, List.length_cons, Nat.succ_mul, Nat.add_comm], fun j q hq => ?_⟩
  cases j with
  | zero =>
    simp only [List.getElem?_cons_zero, Option.some.injEq] at hq
    subst hq
    rw [Nat.zero_mul, List.drop_zero, List.take_append_of_le_length (by omega), List.take_of_length_le (by omega)]
    exact hp
  | succ j =>
    simp only [List.getElem?_cons_succ] at hq
    have h1 := h.2 j q hq
    rw [Nat.succ_mul, List.drop_append, List.drop_of_length_le (by rw [hc]; exact Nat.le_add_left _ _), List.nil_append, hc, Nat.add_sub_cancel]
    exact h1
theorem Reps.c2 {α : Type} {R : α → List Value → Prop} {ps : List α} {cs : List Value} {p : α} {va vb : Value} (hp : R p [va, vb]) (h : Reps R 2 ps cs) : Reps R 2 (p :: ps) (va :: vb :: cs) := Reps.front hp rfl h rfl
theorem Reps.c3 {α : Type} {R : α → List Value → Prop} {ps : List α} {cs : List Value} {p : α} {va vb vc : Value} (hp : R p [va, vb, vc]) (h : Reps R 3 ps cs) : Reps R 3 (p :: ps) (va :: vb :: vc :: cs) := Reps.front hp rfl h rfl
theorem Reps.c4 {α : Type} {R : α → List Value → Prop} {ps : List α} {cs : List Value} {p : α} {va vb vc vd : Value} (hp : R p [va, vb, vc, vd]) (h : Reps R 4 ps cs) : Reps R 4 (p :: ps) (va :: vb :: vc :: vd :: cs) := Reps.front hp rfl h rfl
theorem Reps.c5 {α : Type} {R : α → List Value → Prop} {ps : List α} {cs : List Value} {p : α} {va vb vc vd ve : Value} (hp : R p [va, vb, vc, vd, ve]) (h : Reps R 5 ps cs) : Reps R 5 (p :: ps) (va :: vb :: vc :: vd :: ve :: cs) := Reps.front hp rfl h rfl
theorem Reps.c6 {α : Type} {R : α → List Value → Prop} {ps : List α} {cs : List Value} {p : α} {va vb vc vd ve vf : Value} (hp : R p [va, vb, vc, vd, ve, vf]) (h : Reps R 6 ps cs) : Reps R 6 (p :: ps) (va :: vb :: vc :: vd :: ve :: vf :: cs) := Reps.front hp rfl h rfl
theorem Reps.c7 {α : Type} {R : α → List Value → Prop} {ps : List α} {cs : List Value} {p : α} {va vb vc vd ve vf vg : Value} (hp : R p [va, vb, vc, vd, ve, vf, vg]) (h : Reps R 7 ps cs) : Reps R 7 (p :: ps) (va :: vb :: vc :: vd :: ve :: vf :: vg :: cs) := Reps.front hp rfl h rfl
theorem Reps.c8 {α : Type} {R : α → List Value → Prop} {ps : List α} {cs : List Value} {p : α} {va vb vc vd ve vf vg vh : Value} (hp : R p [va, vb, vc, vd, ve, vf, vg, vh]) (h : Reps R 8 ps cs) : Reps R 8 (p :: ps) (va :: vb :: vc :: vd :: ve :: vf :: vg :: vh :: cs) := Reps.front hp rfl h rfl
theorem Reps.c9 {α : Type} {R : α → List Value → Prop} {ps : List α} {cs : List Value} {p : α} {va vb vc vd ve vf vg vh vi : Value} (hp : R p [va, vb, vc, vd, ve, vf, vg, vh, vi]) (h : Reps R 9 ps cs) : Reps R 9 (p :: ps) (va :: vb :: vc :: vd :: ve :: vf :: vg :: vh :: vi :: cs) := Reps.front hp rfl h rfl
end Go.Proofs.YtbnoihpooeombaaDoorW.PrintWords

namespace Go.Proofs.YtbnoihpooeombaaDoor.P
open Go.Proofs.YtbnoihpooeombaaDoor.X
open Go.RowKit Go.Proofs.YtbnoihpooeombaaDoorW.PrintWords Go.Proofs.YtbnoihpooeombaaDoorW.PrintLast Go.Proofs.YtbnoihpooeombaaDoorW.PrintMore
set_option linter.unusedVariables false
set_option linter.unusedSimpArgs false
def errW : Option Int → Value
  | none => .nilIface
  | some c => .iface 0 (.int .i64 c)
theorem qA0 : errW none = .nilIface := rfl
theorem qAz (c : Int) : errW (some c) = .iface 0 (.int .i64 c) := rfl
theorem info5 : (Tryd.prog.info? 5).map (fun i => (i.zero, i.size, i.bytes)) = some (some (.int .u8 0), 1, 1) := by kernel_rfl
theorem info68 : (Tryd.prog.info? 68).map (fun i => (i.zero, i.size, i.bytes)) = some (some (.agg #[(.string ⟨#[]⟩), (.string ⟨#[]⟩)]), 2, 32) := by kernel_rfl
structure S68 where
  f0 : ByteArray
  f1 : ByteArray
def z68 : S68 := ⟨(⟨#[]⟩ : ByteArray), (⟨#[]⟩ : ByteArray)⟩
def k68 : Kd S68 := Kd.iso (Kd.pair Kd.string Kd.string) (fun x : S68 => (x.f0, x.f1))
theorem qEt {w : World} {x : S68} {cs : List Value} (h : k68.K w x cs) : cs = [.string x.f0, .string x.f1] := by
  obtain ⟨_, _, rfl, rfl, rfl⟩ := h
  exact rfl
theorem qC7 {w : World} {base : Nat} {ok : Nat → Prop} {x : S68} {cs : List Value} (h : k68.M w base ok x cs) : cs = [.string x.f0, .string x.f1] := by
  obtain ⟨_, _, rfl, rfl, rfl⟩ := h
  exact rfl
theorem k68_mk (w : World) (x : S68)  : k68.K w x [.string x.f0, .string x.f1] := ⟨[.string x.f0], [.string x.f1], rfl, rfl, rfl⟩
theorem qDi (w : World) (base : Nat) (ok : Nat → Prop) (x : S68)  : k68.M w base ok x [.string x.f0, .string x.f1] := ⟨[.string x.f0], [.string x.f1], rfl, rfl, rfl⟩
def rd_T68 (xs : List S68) (i : Int) : S68 := xs.getD i.toNat z68
theorem at_T68 {w : World} {A : Option Addr} {n : Nat} {xs : List S68} (h : Kd.C k68 w A n xs) (i : Int) (h0 : 0 ≤ i) (h1 : i < n) : ∃ ad , A = some ad ∧ w.cell? (ad.add (i.toNat * 2)) = some (.string (rd_T68 xs i).f0) ∧ w.cell? ⟨(ad.add (i.toNat * 2)).block, (ad.add (i.toNat * 2)).off + 1, none⟩ = some (.string (rd_T68 xs i).f1) := by
  obtain ⟨ad, c, e, _, hK, hc0⟩ := Kd.C_get h z68 i h0 h1
  have hc : ∀ j u, c[j]? = some u → w.cell? (ad.add (i.toNat * 2 + j)) = some u := hc0
  obtain rfl := qEt hK
  exact ⟨ad, e, hc 0 _ rfl, by rw [← qEo _ _ 1 (by omega)]; exact hc 1 _ rfl⟩
def rd_L7 (xs : List (List Int)) (i : Int) : (List Int) := xs.getD i.toNat ([] : List Int)
theorem at_L7 {w : World} {A : Option Addr} {n : Nat} {xs : List (List Int)} (h : Kd.C (Kd.slice 5 (Kd.int .u8)) w A n xs) (i : Int) (h0 : 0 ≤ i) (h1 : i < n) : ∃ ad A0 c0, A = some ad ∧ w.cell? (ad.add i.toNat) = some (.slice A0 (rd_L7 xs i).length c0) ∧ (rd_L7 xs i).length ≤ c0 ∧ (Kd.int .u8).C w A0 (rd_L7 xs i).length (rd_L7 xs i) := by
  obtain ⟨ad, c, e, _, hK, hc0⟩ := Kd.C_get h ([] : List Int) i h0 h1
  have hc : ∀ j u, c[j]? = some u → w.cell? (ad.add (i.toNat * 1 + j)) = some u := hc0
  obtain ⟨A0, c0, rfl, l0, g0⟩ := hK
  exact ⟨ad, A0, c0, e, by have hq := hc 0 _ rfl; rwa [Nat.mul_one, Nat.add_zero] at hq, l0, g0⟩
end Go.Proofs.YtbnoihpooeombaaDoor.P

namespace Go.Proofs.YtbnoihpooeombaaDoor.X
open Go.RowKit Go.Proofs.YtbnoihpooeombaaDoorW.PrintWords Go.Proofs.YtbnoihpooeombaaDoor.P
set_option linter.unusedVariables false
set_option linter.unusedSimpArgs false
def qAh : List ByteArray → Bool
  | a :: b :: l => Op.bytesLess a.toList b.toList && qAh (b :: l)
  | _ => true
end Go.Proofs.YtbnoihpooeombaaDoor.X

namespace Go.Proofs.YtbnoihpooeombaaDoor.X
open Go.RowKit Go.Proofs.YtbnoihpooeombaaDoorW.PrintWords Go.Proofs.YtbnoihpooeombaaDoorW.PrintLast Go.Proofs.YtbnoihpooeombaaDoorW.PrintMore Go.Proofs.YtbnoihpooeombaaDoor.P
set_option linter.unusedVariables false
set_option linter.unusedSimpArgs false
theorem qCo {w w1 w2 : World} {r : Option Nat} (h : w.grownBy w1 r) (hb : w1.grownBy w2 r) : w.grownBy w2 r :=
  ⟨hb.os.trans h.os, hb.tape.trans h.tape, hb.output.trans h.output, by have := h.size; have := hb.size; omega, fun k hk hne => (hb.block k (by have := h.size; omega) hne).trans (h.block k hk hne)⟩
theorem blk_alloc' {w : World} {g : Nat} {o : Obj} (h : w.heap[g]? = some o) (o2 : Obj) : (w.alloc o2).heap[g]? = some o := qBc h (qAb (Below.refl w.heap.size w) o2)
theorem qBe (z : Array Value) (n : Nat) : (Builtin.zeroCells z n).size = n * z.size := by
  have : (Builtin.zeroCells z n).toList.length = n * z.size := by
    simp [Builtin.zeroCells]
  simpa using this
theorem qB7 {W : World} {e size n G base : Nat} {news : List Value} {z : Array Value} (hl : news.length = n * size) (hz : z.size = size) (hg : n ≤ G) (hG : G ≤ maxLen) (b : Nat) (hb : b = W.heap.size) (hbase : base ≤ b) :
    (W.alloc (.cells (news.toArray ++ Builtin.zeroCells z (G - n)) e)).drew.ownsRow base e size (.slice (some ⟨b, 0, none⟩) n G) n news := by
  subst hb
  refine ⟨hl, .inr ⟨W.heap.size, G, _, rfl, hbase, qAq W _, hg, hG, ?_, ?_⟩⟩
  · rw [Array.size_append, qBe, hz]
    simp only [List.size_toArray, hl]
    rw [← Nat.add_mul]
    congr 1
    omega
  · rw [Array.toList_append, List.take_append_of_le_length (by simp [hl])]
    simp [← hl]
end Go.Proofs.YtbnoihpooeombaaDoor.X

namespace Go.Proofs.YtbnoihpooeombaaDoor.X
open Go.RowKit Go.Proofs.YtbnoihpooeombaaDoorW.PrintWords Go.Proofs.YtbnoihpooeombaaDoorW.PrintLast Go.Proofs.YtbnoihpooeombaaDoorW.PrintMore Go.Proofs.YtbnoihpooeombaaDoor.P
set_option linter.unusedVariables false
set_option linter.unusedSimpArgs false
theorem qC3 (l : List ByteArray) (j : Nat) (h : j < l.length) : rdOf ByteArray.empty l (j : Int) = l[j] := by
  simp [rdOf, List.getD_eq_getElem?_getD, h]
end Go.Proofs.YtbnoihpooeombaaDoor.X

namespace Go.Proofs.YtbnoihpooeombaaDoor.X
open Go.RowKit Go.Proofs.YtbnoihpooeombaaDoorW.PrintWords Go.Proofs.YtbnoihpooeombaaDoorW.PrintLast Go.Proofs.YtbnoihpooeombaaDoorW.PrintMore Go.Proofs.YtbnoihpooeombaaDoor.P
set_option linter.unusedVariables false
set_option linter.unusedSimpArgs false
theorem qEr (w : World) (a : Addr) (v : Value) : (w.setCell a v).heap.size = w.heap.size := by simp [World.setCell]
theorem qC5 {w w1 : World} {base e size n : Nat} {v : Value} {xs : List Value} (h : w.ownsRow base e size v n xs) (hb : Below w.heap.size w w1) : w1.ownsRow base e size v n xs :=
  qBo h (fun k hk => hb.block k (own_lt h k hk))
theorem seg_get (c : Array Value) (a q : Nat) : ((c.toList.drop a).take 6)[q]? = if q < 6 then c[a + q]? else none := by
  rw [List.getElem?_take, List.getElem?_drop]
  simp
theorem qC4 {w : World} {base e size n : Nat} {v : Value} {xs : List Value} (h : w.ownsRow base e size v n xs) : ∃ a c, v = .slice a n c := by
  rcases h.2 with ⟨rfl, rfl⟩ | ⟨g, cap, cur, rfl, _⟩
  · exact ⟨none, 0, rfl⟩
  · exact ⟨_, _, rfl⟩
end Go.Proofs.YtbnoihpooeombaaDoor.X

namespace Go.Proofs.YtbnoihpooeombaaDoor.X
open Go.RowKit Go.Proofs.YtbnoihpooeombaaDoorW.PrintWords Go.Proofs.YtbnoihpooeombaaDoorW.PrintLast Go.Proofs.YtbnoihpooeombaaDoorW.PrintMore Go.Proofs.YtbnoihpooeombaaDoor.P
set_option linter.unusedVariables false
set_option linter.unusedSimpArgs false
theorem qAw (a b : ByteArray) : a.toList = b.toList ↔ a = b := by
  rw [ByteArray.toList_eq, ByteArray.toList_eq]
  exact ⟨fun h => ByteArray.ext (Array.ext' h), fun h => by rw [h]⟩
end Go.Proofs.YtbnoihpooeombaaDoor.X

namespace Go.Proofs.YtbnoihpooeombaaDoor.X
open Go.RowKit Go.Proofs.YtbnoihpooeombaaDoorW.PrintWords Go.Proofs.YtbnoihpooeombaaDoorW.PrintLast Go.Proofs.YtbnoihpooeombaaDoorW.PrintMore Go.Proofs.YtbnoihpooeombaaDoor.P
set_option linter.unusedVariables false
set_option linter.unusedSimpArgs false
def KeepT (w w' : World) : Prop := w.heap.size ≤ w'.heap.size ∧ ∀ (k : Nat) (cs : Array Value) (t : TypeId) (fr : Nat × Nat), w.heap[k]? = some (.cells cs t fr) → t ≠ 5 → w'.heap[k]? = some (.cells cs t fr)
theorem KeepT.trans {a b c : World} (h : KeepT a b) (k : KeepT b c) : KeepT a c := ⟨Nat.le_trans h.1 k.1, fun q cs t fr e n => k.2 q cs t fr (h.2 q cs t fr e n) n⟩
end Go.Proofs.YtbnoihpooeombaaDoor.X

namespace Go.Proofs.YtbnoihpooeombaaDoor.X
open Go.RowKit Go.WideShapes Go.ChangeShapes Go.Proofs.YtbnoihpooeombaaDoorW.PrintWords Go.Proofs.YtbnoihpooeombaaDoor.P
set_option linter.unusedVariables false
section
variable {H : Type} {enc : TypeId × Value → H} {w : World} {base : Nat} {spare : Nat → Bool} {held : Bool}
theorem qEf {P : Program} {α : Type} (d : Kd α) (dflt : α) {t e : TypeId} (ht : P.underlying t = some (.slice e)) (hc : P.cellsOf e = d.sz) {fuel : Nat} {cs : List Value} {x : DataW H × List MemPlace}
    (hel : ∀ n cs x, n < fuel → DataW.trod enc P w base spare held n e cs = some x → ∃ y, d.K w y cs) (h : DataW.trod enc P w base spare held fuel t cs = some x) :
    ∃ (A : Option Addr) (c : Nat) (l : List α), cs = [.slice A l.length c] ∧ l.length ≤ c ∧ d.C w A l.length l := by
  rcases DataW.trod_slice ht h with ⟨rfl, _⟩ | ⟨a, len, cap, elems, rest, n, rfl, rfl, _, hb, hl, hm, hlen, hE, _, _⟩
  · exact ⟨none, 0, [], rfl, Nat.le_refl _, rfl, by simp, fun h => absurd h (by simp)⟩
  · haveI : Inhabited α := ⟨dflt⟩
    have hone : ∀ i, i < len → ∃ y : α, ∃ c : List Value, c.length = d.sz ∧ d.K w y c ∧ ∀ j u, c[j]? = some u → w.cell? (a.add (i * d.sz + j)) = some u := by
      intro i hi
      have h1 := hE i hi
      rw [List.getElem?_eq_getElem (by omega)] at h1
      obtain ⟨cs', h2, h3⟩ := Option.bind_eq_some_iff.1 h1
      obtain ⟨y, hy⟩ := hel n cs' _ (Nat.lt_succ_self n) h3
      obtain ⟨_, h4, h5⟩ := World.cells?_some h2
      rw [hc] at h4 h5
      refine ⟨y, cs', h4, hy, fun j u hj => ?_⟩
      have hjl : j < d.sz := by
        have := (List.getElem?_eq_some_iff.1 hj).1; omega
      have h6 := h5 j hjl
      rw [Go.Deep.add_add] at h6
      rw [h6, hj]
    obtain ⟨f, hf⟩ := Go.Deep.choose_lt hone
    refine ⟨some a, cap, (List.range len).map f, by simp, by simpa using hl, by simp, by simpa [maxLen] using Nat.le_trans hl hm, fun _ => ⟨a, rfl, fun j p hp => ?_⟩⟩
    have hj : j < len := by
      have := (List.getElem?_eq_some_iff.1 hp).1; simpa using this
    have : f j = p := by simpa [hj] using hp
    subst this
    exact hf j hj
set_option maxRecDepth 100000 in
theorem qEp {fuel : Nat} {cs : List Value} {x : DataW H × List MemPlace} (h : DataW.trod enc Tryd.prog w base spare held fuel 9 cs = some x) : ∃ y : ByteArray, Kd.string.K w y cs := by
  obtain ⟨s, rfl, _, _⟩ := DataW.trod_string Tryd.underlying9 h
  exact ⟨s, rfl⟩
set_option maxRecDepth 100000 in
theorem qD6 {fuel : Nat} {cs : List Value} {x : DataW H × List MemPlace} (h : DataW.trod enc Tryd.prog w base spare held fuel 23 cs = some x) :
    ∃ (A : Option Addr) (c : Nat) (l : List ByteArray), cs = [.slice A l.length c] ∧ l.length ≤ c ∧ Kd.string.C w A l.length l :=
  qEf Kd.string ByteArray.empty Tryd.underlying23 (by kernel_rfl) (fun n cs x _ h => qEp h) h
set_option maxRecDepth 100000 in
theorem qEz {r : Reach} {b0 : Nat} {v : Value} {d : DataW H} {ps : List MemPlace} (hval : Value.okWide Tryd.prog w r b0 23 v) (hd : DataW.Trod enc Tryd.prog w base spare held 23 v d ps) :
    ∃ (A : Option Addr) (c : Nat) (l : List ByteArray), v = .slice A l.length c ∧ l.length ≤ c ∧ Kd.string.C w A l.length l := by
  obtain ⟨a, n, c, rfl⟩ := okWide_slice Tryd.underlying23 hval
  obtain ⟨fuel, hf⟩ := hd
  obtain ⟨A4, d4, l4, g4, h4, r4⟩ := qD6 hf
  have g4 : [Value.slice a n c] = [.slice A4 l4.length d4] := g4
  simp only [List.cons.injEq, and_true] at g4
  exact ⟨A4, d4, l4, g4, h4, r4⟩
end
end Go.Proofs.YtbnoihpooeombaaDoor.X

namespace Go.Proofs.YtbnoihpooeombaaDoor.P
open Go.Proofs.YtbnoihpooeombaaDoor.X
open Go.RowKit Go.Proofs.YtbnoihpooeombaaDoorW.PrintWords Go.Proofs.YtbnoihpooeombaaDoorW.PrintLast Go.Proofs.YtbnoihpooeombaaDoorW.PrintMore
set_option linter.unusedVariables false
set_option linter.unusedSimpArgs false
mutual
def hogsheadlaw0_GreatTexts.l0 : Nat → List ByteArray → Int → Int → Int → Option (Bool)
 | 0, _, _, _, _ => none
 | k + 1, x0, x1, x2, x7 => if x7 < (x0.length : Int) then (hogsheadlaw0_GreatTexts.j1 k x0 x1 x2 x7 (decide ((x0.length : Int) ≤ x1))) else (hogsheadlaw0_GreatTexts.j1 k x0 x1 x2 x7 false)
def hogsheadlaw0_GreatTexts.j1 : Nat → List ByteArray → Int → Int → Int → Bool → Option (Bool)
 | 0, _, _, _, _, _ => none
 | k + 1, x0, x1, x2, x7, x17 => if x17 = true then (if 0 ≤ x7 then (if x7 < (x0.length : Int) then (if ((rdOf ByteArray.empty x0 x7).size : Int) > x2 then (some true) else (hogsheadlaw0_GreatTexts.l0 k x0 x1 x2 (wrap64 (x7 + 1)))) else (none)) else (none)) else (some (decide ((x0.length : Int) > x1)))
end
def hogsheadlaw0_GreatTexts.f (k : Nat) (l0 : List ByteArray) (a1 : Int) (a2 : Int) : Option (Bool) := hogsheadlaw0_GreatTexts.l0 k l0 a1 a2 0
set_option maxHeartbeats 8000000 in
set_option maxRecDepth 100000 in
theorem hogsheadlaw0_GreatTexts.calls (k : Nat) (A0 : Option Addr) (c0 : Nat) (l0 : List ByteArray) (a1 : Int) (a2 : Int) (r : Bool) (w : World) (hr0 : Kd.C Kd.string w A0 l0.length l0) (hc0 : l0.length ≤ c0) (h : hogsheadlaw0_GreatTexts.f k l0 a1 a2 = some r) :
  Calls Tryd.prog 28 #[.slice A0 l0.length c0, .int .i64 a1, .int .i64 a2] w fun e w' => e = .returned (.bool r) ∧ Drawn0 w w' := by
 have HR0 := Aside0.mk hr0
 have HC0 := Aside0.mk hc0
 clear hr0 hc0
 have H : (hogsheadlaw0_GreatTexts.l0 k l0 a1 a2 0) = some r := h
 clear h
 have H' := Aside0.mk H
 clear H
 go_enter Tryd.func28, Tryd.ntmps28
 go_wp2
 go_loopg [7] k (fun kq v7 w' => ∃ (x7_1 : Int), v7 = .int .i64 x7_1 ∧ Aside0 (hogsheadlaw0_GreatTexts.l0 kq l0 a1 a2 x7_1 = some r) ∧ Aside0 (kq ≤ k) ∧ Drawn0 w w')
 case atStart => exact ⟨(0), (by first | rfl | (simp; done) | (simp [*]; done) | exact congrArg Value.bool (nil_ne _) | exact congrArg Value.bool (nil_eq _) | exact congrArg Value.bool (nil_ne' _)), H', ⟨Nat.le_refl _⟩, by repeat (first | exact Drawn0.refl _ | apply Drawn0.step)⟩
 case round =>
  clear H'
  try clear c2
  try clear p2
  obtain ⟨x7_1, rfl, HA, HK1, ⟨m1, rfl⟩⟩ := hrel
  cases gk with
  | zero => exact absurd HA.out (by simp [hogsheadlaw0_GreatTexts.l0])
  | succ k1 =>
   have H := HA.out
   clear HA
   simp only [hogsheadlaw0_GreatTexts.l0] at H
   have HC4 := Aside0.mk H
   clear H
   go_upto_region 2 with (fail)
   go_cut [17] (fun v17 wc => ∃ (kq : Nat) (x17_3 : Bool), v17 = .bool x17_3 ∧ Aside0 (hogsheadlaw0_GreatTexts.j1 kq l0 a1 a2 x7_1 x17_3 = some r) ∧ Aside0 (kq ≤ k1) ∧ Drawn0 w wc)
   case first =>
    have H := HC4.out
    clear HC4
    by_cases c5 : x7_1 < (l0.length : Int)
    ·rw [if_pos c5] at H
     have c5b0 : decide (x7_1 < (l0.length : Int)) = true := decide_eq_true c5
     clear c5
     (first | rw [c5b0] | (simp only [i64_w, i32_w]; rw [c5b0]) | skip)
     have H' := Aside0.mk H
     clear H
     go_wp2
     go_meet
     case rel => exact ⟨_, (decide ((l0.length : Int) ≤ a1)), (by first | rfl | (simp; done) | (simp [*]; done) | exact congrArg Value.bool (nil_ne _) | exact congrArg Value.bool (nil_eq _) | exact congrArg Value.bool (nil_ne' _)), H', ⟨by have := HK1.out; first | omega | exact Nat.le_refl _⟩, by repeat (first | exact Drawn0.refl _ | apply Drawn0.step)⟩
    ·rw [if_neg c5] at H
     have c5b0 : decide (x7_1 < (l0.length : Int)) = false := decide_eq_false c5
     clear c5
     (first | rw [c5b0] | (simp only [i64_w, i32_w]; rw [c5b0]) | skip)
     have H' := Aside0.mk H
     clear H
     go_wp2
     go_meet
     case rel => exact ⟨_, (false), (by first | rfl | (simp; done) | (simp [*]; done) | exact congrArg Value.bool (nil_ne _) | exact congrArg Value.bool (nil_eq _) | exact congrArg Value.bool (nil_ne' _)), H', ⟨by have := HK1.out; first | omega | exact Nat.le_refl _⟩, by repeat (first | exact Drawn0.refl _ | apply Drawn0.step)⟩
   case rest =>
    clear HC4
    try clear c2
    try clear p2
    try clear c5
    try clear c5b0
    try clear p2
    obtain ⟨kq, x17_3, rfl, HA, HJ3, ⟨mc3, rfl⟩⟩ := hcut
    cases kq with
    | zero => exact absurd HA.out (by simp [hogsheadlaw0_GreatTexts.j1])
    | succ kj3 =>
     have H := HA.out
     clear HA
     simp only [hogsheadlaw0_GreatTexts.j1] at H
     by_cases c6 : x17_3 = true
     ·subst c6
      have H1 : (if 0 ≤ x7_1 then (if x7_1 < (l0.length : Int) then (if ((rdOf ByteArray.empty l0 x7_1).size : Int) > a2 then (some true) else (hogsheadlaw0_GreatTexts.l0 kj3 l0 a1 a2 (wrap64 (x7_1 + 1)))) else (none)) else (none)) = some r := by rw [if_pos rfl] at H; exact H
      clear H
      have H := H1
      clear H1
      by_cases c7 : 0 ≤ x7_1
      ·rw [if_pos c7] at H
       have c7b0 : decide (0 ≤ x7_1) = true := decide_eq_true c7
       clear c7
       by_cases c8 : x7_1 < (l0.length : Int)
       ·rw [if_pos c8] at H
        have c8b0 : decide (x7_1 < (l0.length : Int)) = true := decide_eq_true c8
        clear c8
        by_cases c9 : ((rdOf ByteArray.empty l0 x7_1).size : Int) > a2
        ·rw [if_pos c9] at H
         have c9b0 : decide (a2 < ((rdOf ByteArray.empty l0 x7_1).size : Int)) = true := decide_eq_true c9
         clear c9
         obtain rfl := Option.some.inj H
         have p101 : 0 ≤ (x7_1 : Int) := of_decide_eq_true (by first | (with_reducible assumption) | assumption)
         have q101 : x7_1 < (l0.length : Int) := of_decide_eq_true (by first | (with_reducible assumption) | assumption)
         obtain ⟨ad101, e101, hx101_0⟩ := Kd.at_string HR0.out x7_1 p101 q101
         cases e101
         replace p101 := eq_true p101
         replace q101 := eq_true q101
         go_wp2
         go_ret
         exact ⟨by first | rfl | (simp; done) | (simp [*]; done), by repeat (first | exact Drawn0.refl _ | apply Drawn0.step)⟩
        ·rw [if_neg c9] at H
         have c9b0 : decide (a2 < ((rdOf ByteArray.empty l0 x7_1).size : Int)) = false := decide_eq_false c9
         clear c9
         have H' := Aside0.mk H
         clear H
         have p101 : 0 ≤ (x7_1 : Int) := of_decide_eq_true (by first | (with_reducible assumption) | assumption)
         have q101 : x7_1 < (l0.length : Int) := of_decide_eq_true (by first | (with_reducible assumption) | assumption)
         obtain ⟨ad101, e101, hx101_0⟩ := Kd.at_string HR0.out x7_1 p101 q101
         cases e101
         replace p101 := eq_true p101
         replace q101 := eq_true q101
         go_wp2
         go_roundg kj3
         case measure => have := HK1.out; have := HJ3.out; omega
         case rel => exact ⟨(wrap64 (x7_1 + 1)), (by first | rfl | (simp; done) | (simp [*]; done) | exact congrArg Value.bool (nil_ne _) | exact congrArg Value.bool (nil_eq _) | exact congrArg Value.bool (nil_ne' _)), H', ⟨by have := HK1.out; have := HJ3.out; omega⟩, by repeat (first | exact Drawn0.refl _ | apply Drawn0.step)⟩
       ·rw [if_neg c8] at H
        exact absurd H (by simp)
      ·rw [if_neg c7] at H
       exact absurd H (by simp)
     ·replace c6 := Bool.eq_false_iff.mpr c6
      subst c6
      have H1 : (some (decide ((l0.length : Int) > a1))) = some r := by rw [if_neg (show ¬ (false = true) by decide)] at H; exact H
      clear H
      have H := H1
      clear H1
      obtain rfl := Option.some.inj H
      go_wp2
      go_ret
      exact ⟨by first | rfl | (simp; done) | (simp [*]; done), by repeat (first | exact Drawn0.refl _ | apply Drawn0.step)⟩
end Go.Proofs.YtbnoihpooeombaaDoor.P

namespace Go.Proofs.YtbnoihpooeombaaDoor.X
open Go.RowKit Go.Proofs.YtbnoihpooeombaaDoorW.PrintWords Go.Proofs.YtbnoihpooeombaaDoor.P
set_option linter.unusedVariables false
set_option linter.unusedSimpArgs false
theorem qCw (l : List ByteArray) (m z : Int) (hn : m ≤ 9223372036854775807) : ∀ (d i : Nat), l.length - i = d → i ≤ l.length → (l.length : Int) ≤ m → Ev (fun k => hogsheadlaw0_GreatTexts.l0 k l m z (i : Int)) (decide (∃ s ∈ l.drop i, (s.size : Int) > z)) := by
  intro d
  induction d with
  | zero =>
    intro i hd hi hm
    refine ⟨2, fun k hk => ?_⟩
    obtain ⟨k, rfl⟩ : ∃ m, k = m + 2 := ⟨k - 2, by omega⟩
    simp only [hogsheadlaw0_GreatTexts.l0]
    rw [if_neg (by omega)]
    simp only [hogsheadlaw0_GreatTexts.j1]
    rw [if_neg (by decide), List.drop_eq_nil_of_le (by omega)]
    congr 1
    rw [decide_eq_false (by omega)]
    simp
  | succ d ih =>
    intro i hd hi hm
    have hlt : i < l.length := by omega
    obtain ⟨K, hK⟩ := ih (i + 1) (by omega) (by omega) hm
    refine ⟨K + 2, fun k hk => ?_⟩
    obtain ⟨k, rfl⟩ : ∃ m, k = m + 2 := ⟨k - 2, by omega⟩
    have hK := hK k (by omega)
    simp only at hK
    simp only [hogsheadlaw0_GreatTexts.l0]
    rw [if_pos (by omega)]
    simp only [hogsheadlaw0_GreatTexts.j1]
    rw [if_pos (decide_eq_true hm), if_pos (by omega), if_pos (by omega), qC3 l i hlt, wrap_i i l.length hlt (by omega), hK, List.drop_eq_getElem_cons hlt]
    by_cases c : (l[i].size : Int) > z
    · rw [if_pos c]
      congr 1
      exact (decide_eq_true ⟨l[i], List.mem_cons_self .., c⟩).symm
    · rw [if_neg c]
      congr 1
      rw [decide_eq_decide]
      constructor
      · rintro ⟨s, hs, h⟩; exact ⟨s, List.mem_cons_of_mem _ hs, h⟩
      · rintro ⟨s, hs, h⟩
        rcases List.mem_cons.1 hs with rfl | hs
        · exact absurd h c
        · exact ⟨s, hs, h⟩
theorem qCx (l : List ByteArray) (m z : Int) (hn : m ≤ 9223372036854775807) : Ev (fun k => hogsheadlaw0_GreatTexts.f k l m z) (decide ((l.length : Int) > m ∨ ∃ s ∈ l, (s.size : Int) > z)) := by
  by_cases hm : (l.length : Int) ≤ m
  · have := qCw l m z hn l.length 0 (by omega) (by omega) hm
    rw [List.drop_zero] at this
    have e : decide ((l.length : Int) > m ∨ ∃ s ∈ l, (s.size : Int) > z) = decide (∃ s ∈ l, (s.size : Int) > z) := by
      rw [decide_eq_decide]
      exact ⟨fun h => h.elim (fun h => absurd h (by omega)) id, .inr⟩
    rw [e]
    exact this
  · refine ⟨2, fun k hk => ?_⟩
    obtain ⟨k, rfl⟩ : ∃ m, k = m + 2 := ⟨k - 2, by omega⟩
    show hogsheadlaw0_GreatTexts.l0 _ l m z 0 = _
    simp only [hogsheadlaw0_GreatTexts.l0]
    have e : decide ((l.length : Int) > m ∨ ∃ s ∈ l, (s.size : Int) > z) = true := decide_eq_true (.inl (by omega))
    rw [e]
    split
    · simp only [hogsheadlaw0_GreatTexts.j1]
      rw [if_neg (by rw [decide_eq_true_eq]; exact hm), decide_eq_true (by omega)]
    · simp only [hogsheadlaw0_GreatTexts.j1]
      rw [if_neg (by decide), decide_eq_true (by omega)]
end Go.Proofs.YtbnoihpooeombaaDoor.X

namespace Go.Proofs.YtbnoihpooeombaaDoor.X
open Go.RowKit Go.Proofs.YtbnoihpooeombaaDoorW.PrintWords
set_option linter.unusedVariables false
set_option linter.unusedSimpArgs false
theorem and15 (v : Nat) (hv : v < 18446744073709551616) : bits .and .u64 (v : Int) 15 = ((v % 16 : Nat) : Int) := by
  have h := bits_and_u64_nat v 15 hv (by omega)
  have e : v &&& 15 = v % 16 := Nat.and_two_pow_sub_one_eq_mod v 4
  rw [e] at h
  exact h
theorem e16 : IntKind.u64.wrap (bits BinOp.and IntKind.u64 16 (IntKind.u64.wrap (-16)) * 285870213051353865) / 288230376151711744 = 15 := by decide +kernel
set_option maxHeartbeats 800000 in
set_option maxRecDepth 100000 in
theorem tz16 (w : World) (hc : w.cell? ⟨3, 15, none⟩ = some (.int .u8 4)) : Calls Tryd.prog 127 #[.int .u64 16] w fun e w' => e = .returned (.int .i64 4) ∧ w = w' := by
  have h := e16
  go_enter Tryd.func127, Tryd.ntmps127
  go_wp2
  go_ret
  exact ⟨rfl, rfl⟩
set_option maxHeartbeats 1600000 in
set_option maxRecDepth 100000 in
theorem fb16 (u : Nat) (hu : u < 18446744073709551616) (w : World) (hT : Tabs w) :
    Calls Tryd.prog 117 #[.slice none 0 0, .int .u64 u, .int .i64 16, .bool false, .bool false] w fun e w' => e = .returned (.tuple #[.slice none 0 0, .string ⟨(qAi 16 u).toArray⟩]) ∧ ∃ C, w' = w.alloc (.cells C 151) := by
  have hc := hT.t16
  have hwg : 3 < w.heap.size := World.block_lt_of_cell? w _ hc
  clear hT
  go_enter Tryd.func117, Tryd.ntmps117
  have hp : ∀ W : World, Calls Tryd.prog 126 #[.int .i64 16] W fun e w' => e = .returned (.bool true) ∧ W = w' := by
    intro W
    go_enter Tryd.func126, Tryd.ntmps126
    go_wp2
    go_ret
    exact ⟨by simp; decide, rfl⟩
  have htz : ∀ W : World, W.cell? ⟨3, 15, none⟩ = some (.int .u8 4) → Calls Tryd.prog 127 #[.int .u64 16] W fun e w' => e = .returned (.int .i64 4) ∧ W = w' := fun W h => tz16 W h
  have hcA : ∀ o, (w.alloc o).cell? ⟨3, 15, none⟩ = some (.int .u8 4) := fun o => (((Below.refl w.heap.size w).alloc (Nat.le_refl _) o).cell (p := ⟨3, 15, none⟩) hwg).trans hc
  clear hc
  go_wp2_with (first | (go_at_call 126; refine (hp _).mono ?_; rintro e w' ⟨rfl, rfl⟩) | (go_at_call 127; refine (htz _ (hcA _)).mono ?_; rintro e w' ⟨rfl, rfl⟩))
  clear hp htz hcA
  go_loopw [1, 13] (fun vu vi wr => ∃ (v i : Nat) (C : Array Value) (ds : List UInt8), vu = .int .u64 v ∧ vi = .int .i64 i ∧ Hid (wr = w.alloc (.cells C 151)) ∧ Hid (Box C ds) ∧ i ≤ 65 ∧ Hid (i + ds.length = 65) ∧ v < 18446744073709551616 ∧ Hid (ds.length ≤ 64) ∧ Hid (v * 2 ^ ds.length ≤ u) ∧ Hid (qAi 16 u = qAi 16 v ++ ds)) (fun vu _ _ => (intOf vu).toNat)
  case atStart =>
    refine ⟨u, 65, _, [], rfl, rfl, rfl, ?_, by omega, rfl, hu, by show [].length ≤ 64; simp, ?_, ?_⟩
    · refine ⟨rfl, by simp, fun j hj => ⟨0, ?_⟩, fun j hj => absurd hj (by simp)⟩
      have e : Tryd.zeroCells151 = Array.replicate 65 (.int .u8 0) := rfl
      rw [e]; simp [hj]
    · show u * 2 ^ 0 ≤ u; omega
    · show _ = _ ++ []; simp
  case round =>
    obtain ⟨v, i, C, ds, rfl, rfl, hW, hB, hi, hl, hv, hn, hm, hd⟩ := hrel
    obtain rfl := hW
    have h15 := and15 v hv
    by_cases hlt : 16 ≤ v
    · have hr := room_ u v ds.length hu hm.out (by omega)
      have hi1 : 1 ≤ i := by have := hl.out; omega
      obtain ⟨z, hz⟩ := hB.out.old (i - 1) (by omega)
      have hcell : (w.alloc (.cells C 151)).cell? ⟨w.heap.size, i - 1, none⟩ = some (.int .u8 z) := by simp [World.cell?, World.alloc, -World.alloc_eq, hz]
      clear hz
      go_wp2
      have e1 : i - 1 = 64 - ds.length := by have := hl.out; omega
      have e2 : (↑v : Int) / 16 = ((v / 16 : Nat) : Int) := by omega
      refine ⟨⟨v / 16, i - 1, _, dch (v % 16) :: ds, by rw [e2], by congr 1; omega, rfl, ?_, by omega, ?_, by omega, by show (dch (v % 16) :: ds).length ≤ 64; simp only [List.length_cons]; omega, ?_, ?_⟩, by simp [intOf]; omega⟩
      · have hk : v % 16 < digs.size := by have : digs.size = 36 := rfl; omega
        have hd2 := qEh (v % 16) (by omega) hk
        rw [e1, ← hd2]
        exact qEl hB.out (by omega) (digs[v % 16])
      · show i - 1 + (ds.length + 1) = 65
        have := hl.out; omega
      · show v / 16 * 2 ^ (ds.length + 1) ≤ u
        have := hm.out
        have h2 : v / 16 * 2 ^ (ds.length + 1) = (v / 16 * 2) * 2 ^ ds.length := by rw [Nat.pow_succ, Nat.mul_comm (2 ^ ds.length) 2, Nat.mul_assoc]
        rw [h2]
        exact Nat.le_trans (Nat.mul_le_mul_right _ (by omega)) this
      · show qAi 16 u = _
        rw [hd.out, qCf hlt (by omega), List.append_assoc]; rfl
    · have hr := hn.out
      have hi1 : 1 ≤ i := by have := hl.out; omega
      obtain ⟨z, hz⟩ := hB.out.old (i - 1) (by omega)
      have hcell : (w.alloc (.cells C 151)).cell? ⟨w.heap.size, i - 1, none⟩ = some (.int .u8 z) := by simp [World.cell?, World.alloc, -World.alloc_eq, hz]
      clear hz
      have hsl : ∀ W, (Instr.sliceAt 151 (.pointer (some ⟨w.heap.size, 0, none⟩)) (some (.int .i64 (↑i - 1))) none none).run Tryd.prog W = .ok (.slice (some ⟨w.heap.size, i - 1, none⟩) (ds.length + 1) (ds.length + 1)) W := by
        intro W
        have hal : Tryd.prog.arrayLen 151 = 65 := by simp [Program.arrayLen, Tryd.underlying151]
        rw [run_sliceAt_array_l W 151 ⟨w.heap.size, 0, none⟩ (by simp [Program.arrayLen, Program.elem, Tryd.underlying151]) .i64 (↑i - 1) (by omega) (by rw [hal]; omega), hal]
        have hel : Tryd.prog.elem 151 = 5 := by simp [Program.elem, Tryd.underlying151]
        have e2 : ((i : Int) - 1).toNat = i - 1 := by omega
        have hne : ¬ (65 = i - 1) := by omega
        simp only [hel, e2, slicedAt, if_neg hne]
        have hl := hl.out
        have ha : (⟨w.heap.size, 0, none⟩ : Addr).add (i - 1) = ⟨w.heap.size, i - 1, none⟩ := by unfold Addr.add; split <;> simp_all
        have h3 : 65 - (i - 1) = ds.length + 1 := by omega
        go_simp
      have e1 : i - 1 = 64 - ds.length := by have := hl.out; omega
      have hb2 := qEl hB.out (by omega) (dch v)
      have hk : v < digs.size := by have : digs.size = 36 := rfl; omega
      have hdv : digs[v] = dch v := qEh v (by omega) hk
      rw [← hdv, ← e1] at hb2
      have hcv := run_convert_bytes_back (P := Tryd.prog) (w.alloc (.cells (C.setIfInBounds (i - 1) (.int .u8 (digs[v].toNat : Int))) 151)) 78 9 5 ⟨w.heap.size, i - 1, none⟩ (ds.length + 1) (digs[v] :: ds) Tryd.underlying78 Tryd.underlying5 Tryd.underlying9 (fun j hj => by
        have h1 := hb2.new j hj
        have ha : (⟨w.heap.size, i - 1, none⟩ : Addr).add j = ⟨w.heap.size, i - 1 + j, none⟩ := by unfold Addr.add; split <;> simp_all
        have h2 : 65 - (digs[v] :: ds).length + j = i - 1 + j := by simp only [List.length_cons]; have := hl.out; omega
        rw [ha]
        rw [h2] at h1
        simp [World.cell?, World.alloc, -World.alloc_eq, h1])
      have HD := Lib.hid hdv
      have HB2 := Lib.hid hb2
      clear hdv hb2
      simp only [List.length_cons] at hcv
      clear e1
      go_wp2
      go_ret2
      refine ⟨?_, _, rfl⟩
      rw [hd.out, qBh (by omega)]
      have := HD.out
      simp [← this]
set_option maxHeartbeats 1600000 in
theorem fu16 (u : Nat) (hu : u < 18446744073709551616) (w : World) (hT : Tabs w) : Calls Tryd.prog 104 #[.int .u64 u, .int .i64 16] w fun e w' => e = .returned (.string ⟨(qAi 16 u).toArray⟩) ∧ Below w.heap.size w w' := by
  have HT := Lib.hid hT
  clear hT
  go_enter Tryd.func104, Tryd.ntmps104
  go_wp2_with (go_at_call 117; refine (fb16 u hu _ HT.out).mono ?_; rintro e w' ⟨rfl, C, rfl⟩)
  go_ret
  exact ⟨rfl, (Below.refl _ _).alloc (Nat.le_refl _) _⟩
def strconv_FormatUint.f (a0 a1 : Int) : Option ByteArray := if 0 ≤ a0 ∧ a0 < 18446744073709551616 ∧ a1 = 16 then some ⟨(qAi 16 a0.toNat).toArray⟩ else none
set_option maxHeartbeats 1600000 in
theorem strconv_FormatUint.calls (a0 a1 : Int) (r : ByteArray) (w : World) (hT : Aside0 (Tabs w)) (h : strconv_FormatUint.f a0 a1 = some r) :
    Calls Tryd.prog 89 #[.int .u64 a0, .int .i64 a1] w fun e w' => e = .returned (.string r) ∧ Below w.heap.size w w' := by
  unfold strconv_FormatUint.f at h
  split at h
  · rename_i hc
    obtain ⟨h0, h1, rfl⟩ := hc
    obtain ⟨n, rfl⟩ := Int.eq_ofNat_of_zero_le h0
    cases h
    simp only [Int.toNat_natCast]
    have hn : n < 18446744073709551616 := by omega
    clear h0 h1
    go_enter Tryd.func89, Tryd.ntmps89
    go_wp2_with (go_at_call 104; refine (fu16 n hn _ hT.out).mono ?_; rintro e w' ⟨rfl, hb⟩)
    go_ret
    exact ⟨rfl, hb⟩
  · cases h
def strings_Repeat.f (a0 : ByteArray) (a1 : Int) : Option ByteArray := if 0 ≤ a1 ∧ a1 ≤ 9223372036854775807 ∧ a0.size * a1.toNat ≤ 140737488355328 then some ⟨(Lib.repeatL a0.data.toList a1.toNat).toArray⟩ else none
theorem strings_Repeat.calls (a0 : ByteArray) (a1 : Int) (r : ByteArray) (w : World) (h : strings_Repeat.f a0 a1 = some r) :
    Calls Tryd.prog 90 #[.string a0, .int .i64 a1] w fun e w' => e = .returned (.string r) ∧ Below w.heap.size w w' := by
  unfold strings_Repeat.f at h
  split at h
  · rename_i hc
    obtain ⟨h0, h1, h2⟩ := hc
    obtain ⟨n, rfl⟩ := Int.eq_ofNat_of_zero_le h0
    cases h
    exact Tryd.strings_Repeat a0 n w (by omega) h2
  · cases h
end Go.Proofs.YtbnoihpooeombaaDoor.X

namespace Go.Proofs.YtbnoihpooeombaaDoor.P
open Go.Proofs.YtbnoihpooeombaaDoor.X
open Go.RowKit Go.Proofs.YtbnoihpooeombaaDoorW.PrintWords Go.Proofs.YtbnoihpooeombaaDoorW.PrintLast Go.Proofs.YtbnoihpooeombaaDoorW.PrintMore
set_option linter.unusedVariables false
set_option linter.unusedSimpArgs false
def cmp_isNaN_string.f (a0 : ByteArray) : Option (Bool) := some (a0.toList != a0.toList)
set_option maxHeartbeats 8000000 in
set_option maxRecDepth 100000 in
theorem cmp_isNaN_string.calls (a0 : ByteArray) (r : Bool) (w : World) (h : cmp_isNaN_string.f a0 = some r) :
  Calls Tryd.prog 98 #[.string a0] w fun e w' => e = .returned (.bool r) ∧ Drawn0 w w' := by
 have H : (some (a0.toList != a0.toList)) = some r := h
 clear h
 obtain rfl := Option.some.inj H
 go_enter Tryd.func98, Tryd.ntmps98
 go_wp2
 go_ret
 exact ⟨by first | rfl | (simp; done) | (simp [*]; done), by repeat (first | exact Drawn0.refl _ | apply Drawn0.step)⟩
end Go.Proofs.YtbnoihpooeombaaDoor.P

namespace Go.Proofs.YtbnoihpooeombaaDoor.X
open Go.RowKit Go.Proofs.YtbnoihpooeombaaDoorW.PrintWords Go.Proofs.YtbnoihpooeombaaDoor.P
set_option linter.unusedVariables false
set_option linter.unusedSimpArgs false
theorem qDa : ∀ a : List UInt8, Op.bytesLess a a = false
  | [] => rfl
  | x :: a => by rw [Op.bytesLess]; simp [qDa a]
theorem qDu : ∀ a b c : List UInt8, Op.bytesLess a b = true → Op.bytesLess b c = true → Op.bytesLess a c = true
  | _, [], _, h, _ => by cases a : ‹List UInt8› <;> simp [Op.bytesLess] at h
  | _, _ :: _, [], _, h => by simp [Op.bytesLess] at h
  | [], _ :: _, _ :: _, _, _ => rfl
  | x :: a, y :: b, z :: c, h, k => by
    rw [Op.bytesLess] at h k ⊢
    simp only [Bool.or_eq_true, Bool.and_eq_true, decide_eq_true_eq, beq_iff_eq] at h k ⊢
    rcases h with h | ⟨h1, h2⟩
    · rcases k with k | ⟨k1, k2⟩
      · exact .inl (UInt8.lt_trans h k)
      · exact .inl (k1 ▸ h)
    · rcases k with k | ⟨k1, k2⟩
      · exact .inl (h1 ▸ k)
      · exact .inr ⟨h1.trans k1, qDu a b c h2 k2⟩
theorem qDv : ∀ a b : List UInt8, Op.bytesLess a b = false → Op.bytesLess b a = false → a = b
  | [], [], _, _ => rfl
  | [], _ :: _, h, _ => by simp [Op.bytesLess] at h
  | _ :: _, [], _, h => by simp [Op.bytesLess] at h
  | x :: a, y :: b, h, k => by
    rw [Op.bytesLess] at h k
    simp only [Bool.or_eq_false_iff, Bool.and_eq_false_iff, decide_eq_false_iff_not, beq_eq_false_iff_ne] at h k
    have hxy : x = y := by
      rcases UInt8.lt_or_lt_of_ne (a := x) (b := y) with h1
      exact Classical.byContradiction fun e => (h1 e).elim h.1 k.1
    subst hxy
    rw [qDv a b (h.2.resolve_left (fun e => e rfl)) (k.2.resolve_left (fun e => e rfl))]
def lessB (a b : ByteArray) : Bool := Op.bytesLess a.toList b.toList
theorem qAt (a : ByteArray) : lessB a a = false := qDa _
theorem qBt {a b c : ByteArray} (h : lessB a b = true) (k : lessB b c = true) : lessB a c = true := qDu _ _ _ h k
theorem qD3 {a b : ByteArray} (h : lessB a b = false) (k : lessB b a = false) : a = b := (qAw a b).1 (qDv _ _ h k)
theorem qA3 {a : ByteArray} {l : List ByteArray} (h : qAh (a :: l) = true) : qAh l = true ∧ ∀ s ∈ l, lessB a s = true := by
  induction l generalizing a with
  | nil => exact ⟨rfl, fun s hs => by cases hs⟩
  | cons b l ih =>
    rw [qAh, Bool.and_eq_true] at h
    obtain ⟨h1, h2⟩ := h
    refine ⟨h2, fun s hs => ?_⟩
    rcases List.mem_cons.1 hs with rfl | hs
    · exact h1
    · exact qBt h1 ((ih h2).2 s hs)
theorem qC0 {a : ByteArray} {l : List ByteArray} (h : qAh l = true) (ha : ∀ s ∈ l, lessB a s = true) : qAh (a :: l) = true := by
  cases l with
  | nil => rfl
  | cons b l => rw [qAh, Bool.and_eq_true]; exact ⟨ha b (List.mem_cons_self ..), h⟩
def posK (K : List ByteArray) (key : ByteArray) : Nat := (K.takeWhile (fun s => lessB s key)).length
theorem qBr (K : List ByteArray) (key : ByteArray) : posK K key ≤ K.length := by
  unfold posK
  exact (List.takeWhile_prefix _).length_le
theorem qA4 : ∀ (K : List ByteArray) (key : ByteArray), qAh K = true → ∀ (i : Nat) (h : i < K.length), lessB K[i] key = true ↔ i < posK K key
  | [], key, _, i, h => by simp at h
  | a :: K, key, hr, i, h => by
    obtain ⟨h1, h2⟩ := qA3 hr
    unfold posK
    by_cases c : lessB a key = true
    · rw [List.takeWhile_cons_of_pos (p := fun s => lessB s key) c, List.length_cons]
      cases i with
      | zero => exact ⟨fun _ => by omega, fun _ => c⟩
      | succ i =>
        have := qA4 K key h1 i (by simpa using h)
        unfold posK at this
        rw [List.getElem_cons_succ, this]
        omega
    · rw [List.takeWhile_cons_of_neg (p := fun s => lessB s key) c]
      cases i with
      | zero => exact ⟨fun h => absurd h c, fun h => by simp at h⟩
      | succ i =>
        rw [List.getElem_cons_succ]
        refine ⟨fun h' => absurd (qBt (h2 _ (List.getElem_mem _)) h') c, fun h => by simp at h⟩
def isK (K : List ByteArray) (key : ByteArray) : Bool := decide (∃ h : posK K key < K.length, K[posK K key] = key)
theorem qBu (K : List ByteArray) (key : ByteArray) (hr : qAh K = true) : isK K key = true ↔ key ∈ K := by
  unfold isK
  rw [decide_eq_true_eq]
  constructor
  · rintro ⟨h, e⟩
    exact e ▸ List.getElem_mem h
  · intro h
    obtain ⟨i, hi, e⟩ := List.mem_iff_getElem.1 h
    have h1 := qA4 K key hr i hi
    rw [e, qAt] at h1
    have h2 : ¬ i < posK K key := fun h => by simpa using h1.2 h
    have hp : posK K key = i := by
      rcases Nat.lt_or_ge (posK K key) i with h3 | h3
      · exfalso
        have h4 := qA4 K key hr (posK K key) (by omega)
        have h5 : lessB K[posK K key] key = false := by
          cases e : lessB (K[posK K key]'(by omega)) key with
          | false => rfl
          | true => exact absurd (h4.1 e) (by omega)
        have h6 : lessB (K[posK K key]'(by omega)) K[i] = true := by
          have : ∀ (K : List ByteArray), qAh K = true → ∀ (p q : Nat) (hq : q < K.length) (hpq : p < q), lessB (K[p]'(by omega)) K[q] = true := by
            intro K
            induction K with
            | nil => intro _ p q hq; simp at hq
            | cons a K ih =>
              intro hr p q hq hpq
              obtain ⟨h1, h2⟩ := qA3 hr
              cases q with
              | zero => omega
              | succ q =>
                cases p with
                | zero => exact h2 _ (List.getElem_mem _)
                | succ p => exact ih h1 p q (by simpa using hq) (by omega)
          exact this K hr _ _ hi h3
        rw [e, h5] at h6
        cases h6
      · omega
    exact ⟨by omega, by simp only [hp]; exact e⟩
end Go.Proofs.YtbnoihpooeombaaDoor.X

namespace Go.Proofs.YtbnoihpooeombaaDoor.X
open Go.RowKit Go.Proofs.YtbnoihpooeombaaDoorW.PrintWords Go.Proofs.YtbnoihpooeombaaDoor.P
set_option linter.unusedVariables false
set_option linter.unusedSimpArgs false
theorem isK_lt {K : List ByteArray} {key : ByteArray} (h : isK K key = true) : posK K key < K.length ∧ ∀ h : posK K key < K.length, K[posK K key] = key := by
  obtain ⟨h1, h2⟩ := of_decide_eq_true h
  exact ⟨h1, fun _ => h2⟩
end Go.Proofs.YtbnoihpooeombaaDoor.X

namespace Go.Proofs.YtbnoihpooeombaaDoor.X
open Go.RowKit Go.Proofs.YtbnoihpooeombaaDoorW.PrintWords Go.Proofs.YtbnoihpooeombaaDoorW.PrintLast Go.Proofs.YtbnoihpooeombaaDoorW.PrintMore Go.Proofs.YtbnoihpooeombaaDoor.P
set_option linter.unusedVariables false
set_option linter.unusedSimpArgs false
theorem qAr {P : Program} (w : World) (dT sT ty elem : TypeId) (g o dLen dCap : Nat) (a : Addr) (sLen sCap : Nat) (cur : Array Value) (t : TypeId) (cs : List Value) (sz n : Nat)
    (hu : P.underlying dT = some (.slice elem)) (hs : (P.info? elem).map (·.size) = some sz) (hg : w.heap[g]? = some (.cells cur t (0, 0))) (hn : n = Nat.min sLen dLen) (hcl : cs.length = n * sz)
    (hsrc : ∀ j v, cs[j]? = some v → w.cell? (a.add j) = some v) (hfit : o + cs.length ≤ cur.size) (h1 : ∀ v ∈ cs, v.oneCell' = true) :
    (Builtin.copy_ #[dT, sT] ty #[.slice (some ⟨g, o, none⟩) dLen dCap, .slice (some a) sLen sCap]).run P w = .ok (goInt n) (w.setRow g (cur.toList.take o ++ cs ++ cur.toList.drop (o + cs.length)).toArray) := by
  have hl := run_firstCells_some (P := P) w sz n a sLen sCap cs hcl hsrc
  have hst := run_storeCells_at P g o t cs 0 cur w hg (by simpa using hfit) h1
  cases hq : P.info? elem with
  | none => simp [hq] at hs
  | some i =>
    have hi : i.size = sz := by simpa [hq] using hs
    simp [Builtin.copy_, run_underlying hu, Builtin.lenOf, sizeOf, typeInfo, hq, hi, ← hn, hl, hst]
theorem qBb (w : World) (g : Nat) (cs : Array Value) : w.grownBy (w.setRow g cs) (some g) :=
  ⟨rfl, rfl, rfl, by simp [World.setRow], fun k _ hk => setRow_other _ _ _ _ (fun e => hk (by rw [e]))⟩
theorem qA9 {w : World} {g t : Nat} {cur : Array Value} {xs : List Value} {m : Nat} (hg : w.heap[g]? = some (.cells cur t (0, 0))) (hx : cur.toList.take m = xs) (j : Nat) (u : Value) (hj : xs[j]? = some u) : w.cell? ⟨g, j, none⟩ = some u := by
  rw [qAy hg j]
  subst hx
  rw [List.getElem?_take] at hj
  split at hj
  · simpa using hj
  · cases hj
theorem qDj {α : Type} (cur xs ys : List α) (a s m p q : Nat) (hp : p = a + s) (hq : q = a) (hx : cur.take (a + m) = xs) (hxl : xs.length = a + m) (hys : ys.length = s) (hfit : a + s + m ≤ cur.length) (t : Nat) (ht : t = a + s + m) :
    (((cur.take p ++ xs.drop a ++ cur.drop (p + (xs.drop a).length)).take q ++ ys ++ (cur.take p ++ xs.drop a ++ cur.drop (p + (xs.drop a).length)).drop (q + ys.length))).take t = xs.take a ++ (ys ++ xs.drop a) := by
  subst hp hq ht
  have e1 : (cur.take (q + s)).length = q + s := by rw [List.length_take]; omega
  have e2 : (cur.take (q + s) ++ xs.drop q ++ cur.drop (q + s + (xs.drop q).length)).take q = xs.take q := by
    rw [List.append_assoc, List.take_append_of_le_length (by omega), List.take_take, ← hx, List.take_take]
    congr 1
    omega
  have e3 : (cur.take (q + s) ++ xs.drop q ++ cur.drop (q + s + (xs.drop q).length)).drop (q + ys.length) = xs.drop q ++ cur.drop (q + s + (xs.drop q).length) := by
    rw [hys, List.append_assoc, List.drop_append, e1, Nat.sub_self, List.drop_zero, List.drop_eq_nil_of_le (by omega), List.nil_append]
  rw [e2, e3]
  have e4 : (xs.take q ++ (ys ++ xs.drop q)).length = q + s + m := by
    simp only [List.length_append, List.length_take, List.length_drop]; omega
  have e5 : xs.take q ++ ys ++ (xs.drop q ++ cur.drop (q + s + (xs.drop q).length)) = (xs.take q ++ (ys ++ xs.drop q)) ++ cur.drop (q + s + (xs.drop q).length) := by simp only [List.append_assoc]
  rw [e5, List.take_append_of_le_length (by omega), List.take_of_length_le (by omega)]
theorem qA7 {w w1 : World} (h : Below w.heap.size w w1) (r : Option Nat) : w.grownBy w1 r := ⟨h.os, h.tape, h.output, h.size, fun k hk _ => h.block k hk⟩
end Go.Proofs.YtbnoihpooeombaaDoor.X

namespace Go.Proofs.YtbnoihpooeombaaDoor.X
open Go.RowKit Go.Proofs.YtbnoihpooeombaaDoorW.PrintWords Go.Proofs.YtbnoihpooeombaaDoorW.PrintLast Go.Proofs.YtbnoihpooeombaaDoorW.PrintMore Go.Proofs.YtbnoihpooeombaaDoor.P
set_option linter.unusedVariables false
set_option linter.unusedSimpArgs false
theorem qB5 {α : Type} {R : α → List Value → Prop} {s : Nat} {ps qs : List α} {cs ds : List Value} (h : Reps R s ps cs) (g : Reps R s qs ds) : Reps R s (ps ++ qs) (cs ++ ds) := by
  refine ⟨by rw [List.length_append, List.length_append, h.1, g.1, Nat.add_mul], fun j p hj => ?_⟩
  by_cases c : j < ps.length
  · rw [List.getElem?_append_left c] at hj
    have hm := Nat.mul_le_mul_right s (show j + 1 ≤ ps.length from c)
    rw [Nat.add_mul, Nat.one_mul, ← h.1] at hm
    rw [List.drop_append_of_le_length (by omega), List.take_append_of_le_length (by rw [List.length_drop]; omega)]
    exact h.2 j p hj
  · rw [List.getElem?_append_right (by omega)] at hj
    have e : (cs ++ ds).drop (j * s) = ds.drop ((j - ps.length) * s) := by
      have hm := Nat.mul_le_mul_right s (show ps.length ≤ j by omega)
      rw [List.drop_append, List.drop_of_length_le (by rw [h.1]; exact hm), List.nil_append, h.1, Nat.sub_mul]
    rw [e]
    exact g.2 _ p hj
theorem below_grown' {w0 w w1 : World} {r : Option Nat} (h : Below w0.heap.size w0 w) (hg : w.grownBy w1 r) (hc : ∀ k, r = some k → w0.heap.size ≤ k) : Below w0.heap.size w0 w1 :=
  ⟨hg.os.trans h.os, hg.tape.trans h.tape, hg.output.trans h.output, by have := h.size; have := hg.size; omega, fun k hk => (hg.block k (by have := h.size; omega) (fun e => by have := hc k e.symm; omega)).trans (h.block k hk)⟩
theorem qCt {w : World} {base e size n c : Nat} {a : Option Addr} {xs : List Value} (h : w.ownsRow base e size (.slice a n c) n xs) : n ≤ c := by
  rcases h.2 with ⟨h1, h2⟩ | ⟨g, cap, cur, h1, _, _, h2, _⟩
  · cases h1; omega
  · cases h1; exact h2
end Go.Proofs.YtbnoihpooeombaaDoor.X

namespace Go.Proofs.YtbnoihpooeombaaDoor.X
open Go.RowKit Go.Proofs.YtbnoihpooeombaaDoorW.PrintWords Go.Proofs.YtbnoihpooeombaaDoor.P
set_option linter.unusedVariables false
set_option linter.unusedSimpArgs false
theorem qBl : ∀ (K : List ByteArray) (key : ByteArray), qAh K = true → isK K key = false → qAh (K.take (posK K key) ++ key :: K.drop (posK K key)) = true
  | [], key, _, _ => rfl
  | a :: K, key, hr, hi => by
    obtain ⟨h1, h2⟩ := qA3 hr
    by_cases c : lessB a key = true
    · have hp : posK (a :: K) key = posK K key + 1 := by unfold posK; rw [List.takeWhile_cons_of_pos (p := fun s => lessB s key) c, List.length_cons]
      have hi2 : isK K key = false := by
        cases e : isK K key with
        | false => rfl
        | true =>
          have := (qBu K key h1).1 e
          rw [(qBu (a :: K) key hr).2 (List.mem_cons_of_mem _ this)] at hi
          cases hi
      rw [hp, List.take_succ_cons, List.drop_succ_cons, List.cons_append]
      refine qC0 (qBl K key h1 hi2) (fun s hs => ?_)
      rcases List.mem_append.1 hs with hs | hs
      · exact h2 s (List.mem_of_mem_take hs)
      · rcases List.mem_cons.1 hs with rfl | hs
        · exact c
        · exact h2 s (List.mem_of_mem_drop hs)
    · have hp : posK (a :: K) key = 0 := by unfold posK; rw [List.takeWhile_cons_of_neg (p := fun s => lessB s key) c]; rfl
      rw [hp, List.take_zero, List.drop_zero, List.nil_append]
      have hne : a ≠ key := fun e => by
        rw [(qBu (a :: K) key hr).2 (e ▸ List.mem_cons_self ..)] at hi; cases hi
      have hka : lessB key a = true := by
        cases e : lessB key a with
        | true => rfl
        | false => exact absurd (qD3 (eq_false_of_ne_true c) e) hne
      refine qC0 hr (fun s hs => ?_)
      rcases List.mem_cons.1 hs with rfl | hs
      · exact hka
      · exact qBt hka (h2 s hs)
end Go.Proofs.YtbnoihpooeombaaDoor.X

namespace Go.Proofs.YtbnoihpooeombaaDoor.X
open Go.RowKit Go.Proofs.YtbnoihpooeombaaDoorW.PrintWords Go.Proofs.YtbnoihpooeombaaDoor.P
set_option linter.unusedVariables false
set_option linter.unusedSimpArgs false
theorem qB4 : ∀ (K : List ByteArray), qAh K = true → ∀ (p q : Nat) (hq : q < K.length) (hpq : p < q), lessB (K[p]'(by omega)) K[q] = true
  | [], _, p, q, hq, _ => by simp at hq
  | a :: K, hr, p, q, hq, hpq => by
    obtain ⟨h1, h2⟩ := qA3 hr
    cases q with
    | zero => omega
    | succ q =>
      cases p with
      | zero => exact h2 _ (List.getElem_mem _)
      | succ p => exact qB4 K h1 p q (by simpa using hq) (by omega)
end Go.Proofs.YtbnoihpooeombaaDoor.X

namespace Go.Proofs.YtbnoihpooeombaaDoor.X
open Go.RowKit Go.Proofs.YtbnoihpooeombaaDoorW.PrintWords Go.Proofs.YtbnoihpooeombaaDoorW.PrintLast Go.Proofs.YtbnoihpooeombaaDoorW.PrintMore Go.Proofs.YtbnoihpooeombaaDoor.P
set_option linter.unusedVariables false
set_option linter.unusedSimpArgs false
theorem qCs {w : World} {base e size n : Nat} {a : Option Addr} {c : Nat} {xs : List Value} (h : w.ownsRow base e size (.slice a n c) n xs) : ∀ ad, a = some ad → ∀ j u, xs[j]? = some u → w.cell? (ad.add j) = some u := by
  intro ad ha j u hu
  subst ha
  rcases h.2 with ⟨e1, _⟩ | ⟨g, cap, cur, he, hg, hh, _, _, _, ht⟩
  · cases e1
  · injection he with e1 e2 e3
    cases e1
    have e4 : (⟨g, 0, none⟩ : Addr).add j = ⟨g, j, none⟩ := by
      simp only [Addr.add, Nat.zero_add]; split <;> first | rfl | (rename_i h_; rw [h_])
    rw [e4]
    exact qA9 hh ht j u hu
theorem qCu {w : World} {g t : Nat} {cs : List Value} (h : w.heap[g]? = some (.cells cs.toArray t (0, 0))) : ∀ ad, some (⟨g, 0, none⟩ : Addr) = some ad → ∀ j u, cs[j]? = some u → w.cell? (ad.add j) = some u := by
  intro ad ha j u hu
  cases ha
  have e4 : (⟨g, 0, none⟩ : Addr).add j = ⟨g, j, none⟩ := by
    simp only [Addr.add, Nat.zero_add]; split <;> first | rfl | (rename_i h_; rw [h_])
  rw [e4, qAy h j]
  simpa using hu
theorem qCl {w0 w : World} {A : Option Addr} {xs : List Value} (hb : Below w0.heap.size w0 w) (h : ∀ ad, A = some ad → ∀ j u, xs[j]? = some u → w0.cell? (ad.add j) = some u) : ∀ ad, A = some ad → ∀ j u, xs[j]? = some u → w.cell? (ad.add j) = some u :=
  fun ad ha j u hu => qAe hb (h ad ha j u hu)
theorem qEg {w : World} {A : Option Addr} {xs : List Value} (i : Nat) (h : ∀ ad, A = some ad → ∀ j u, xs[j]? = some u → w.cell? (ad.add j) = some u) : ∀ ad, A = some ad → ∀ j u, (xs.take i)[j]? = some u → w.cell? (ad.add j) = some u := by
  intro ad ha j u hu
  rw [List.getElem?_take] at hu
  split at hu
  · exact h ad ha j u hu
  · cases hu
theorem qEs {w : World} {base e size n : Nat} {a : Option Addr} {c : Nat} {xs : List Value} (h : w.ownsRow base e size (.slice a n c) n xs) (i : Nat) (hi : i ≤ n) {A : Option Addr}
    (hA : ∀ ad, A = some ad → (i = c ∧ a = some ad) ∨ ∃ g, a = some ⟨g, 0, none⟩ ∧ ad = ⟨g, i * size, none⟩) : ∀ ad, A = some ad → ∀ j u, (xs.drop (i * size))[j]? = some u → w.cell? (ad.add j) = some u := by
  intro ad ha j u hu
  rw [List.getElem?_drop] at hu
  have hcap := qCt h
  rcases hA ad ha with ⟨h1, h2⟩ | ⟨g, h1, h2⟩
  · have hl := h.1
    have hj : i * size + j < xs.length := by
      rcases Nat.lt_or_ge (i * size + j) xs.length with h | h
      · exact h
      · rw [List.getElem?_eq_none h] at hu; cases hu
    have : i = n := by omega
    subst this
    omega
  · subst h2
    have := qCs h _ h1 (i * size + j) u hu
    have e4 : (⟨g, 0, none⟩ : Addr).add (i * size + j) = ⟨g, i * size + j, none⟩ := by
      simp only [Addr.add, Nat.zero_add]; split <;> first | rfl | (rename_i h_; rw [h_])
    have e5 : (⟨g, i * size, none⟩ : Addr).add j = ⟨g, i * size + j, none⟩ := by
      simp only [Addr.add]; split <;> first | rfl | (rename_i h_; rw [h_]; rfl)
    rw [e4] at this
    rw [e5]
    exact this
theorem qAn {P : Program} {ops : Array Oper} {o : Oper} {a : Act} {W : World} {Kc : Act → World → Prop} {Q : Exit → Act → World → Prop} {E : Prop} (base : Nat) (hw : Region.wanted o (yielded ops a.tmps) = true) (s x : Operand) (t e : TypeId) (z : Value) (size bytes : Nat)
    (ho : o.op = .call { callee := .builtin .append, args := #[s, x], argTypes := #[t, t] })
    (ht : P.underlying t = some (.slice e)) (hinfo : (P.info? e).map (fun i => (i.zero, i.size, i.bytes)) = some (some z, size, bytes)) (hz : z.cells.size = size) (hs0 : 0 < size) (hb0 : 0 < bytes)
    (v : Value) (n : Nat) (xs : List Value) (A : Option Addr) (m c : Nat) (news : List Value) (hs : a.eval s = v) (hx : a.eval x = .slice A m c)
    (HO : W.ownsRow base e size v n xs) (hA : A = none → m = 0) (hl : news.length = m * size) (hnews : ∀ ad, A = some ad → ∀ j u, news[j]? = some u → W.cell? (ad.add j) = some u) (h1 : ∀ u ∈ news, u.oneCell' = true)
    (hbase : base ≤ W.heap.size) (hbig : (n + m) * bytes ≤ 140737488355328)
    (h : ∀ v1 w1, w1.ownsRow base e size v1 (n + m) (xs ++ news) → W.grownBy w1 v.ownBlock → (v1.ownBlock = v.ownBlock ∨ ∃ b, v1.ownBlock = some b ∧ W.heap.size ≤ b) → Kc (a.put o.dst v1) w1) :
    if Region.wanted o (yielded ops a.tmps) = true then Oper.wp P o a W Kc Q else E := by
  obtain ⟨i0, hi, hzz⟩ := Option.map_eq_some_iff.1 hinfo
  simp only [Prod.mk.injEq] at hzz
  obtain ⟨hz0, hz1, hz2⟩ := hzz
  have hlen : n + m ≤ 140737488355328 := Nat.le_trans (Nat.le_mul_of_pos_right _ hb0) hbig
  have hrun : ∃ v1 w1, (Builtin.append_ #[t, t] o.type #[v, .slice A m c]).run P W = .ok v1 w1 ∧ w1.ownsRow base e size v1 (n + m) (xs ++ news) ∧ W.grownBy w1 v.ownBlock ∧ (v1.ownBlock = v.ownBlock ∨ ∃ b, v1.ownBlock = some b ∧ W.heap.size ≤ b) := by
    rcases A with _ | ad
    · have h0 := hA rfl
      subst h0
      obtain rfl : news = [] := List.eq_nil_of_length_eq_zero (by rw [hl, Nat.zero_mul])
      refine ⟨v, W, ?_, by rw [List.append_nil]; exact HO, World.grownBy.refl W _, .inl rfl⟩
      rcases HO.2 with ⟨rfl, hn⟩ | ⟨g, cap, cur, rfl, _, _, hnc, _⟩
      · simp [Builtin.append_, run_underlying ht, sizeOf, typeInfo, hi, Builtin.lenOf, Builtin.firstCells]
      · simp [Builtin.append_, run_underlying ht, sizeOf, typeInfo, hi, Builtin.lenOf, Builtin.firstCells, hnc, storeCells]
    · obtain ⟨v1, w1, hr, hown, hg, _, hat⟩ := run_append_own_at (P := P) W base t o.type e i0 z size bytes ht hi hz0 hz1 hz2 hz hs0 v n xs HO ad m c news hl (hnews ad rfl) h1 (by simp only [maxLen]; omega) hbig hbase
      exact ⟨v1, w1, hr, hown, hg, hat.imp id (fun h => ⟨_, h, Nat.le_refl _⟩)⟩
  obtain ⟨v1, w1, hr, hown, hg, hat⟩ := hrun
  rw [if_pos hw]
  unfold Oper.wp execOp
  simp only [ho, resolve, invoke, builtin, Sem.run_bind, Sem.run_pure, Result.andThen_ok, List.map_toArray, List.map_cons, List.map_nil, hs, hx, hr]
  exact h v1 w1 hown hg hat
end Go.Proofs.YtbnoihpooeombaaDoor.X

namespace Go.Proofs.YtbnoihpooeombaaDoor.X
open Go.RowKit Go.Proofs.YtbnoihpooeombaaDoorW.PrintWords Go.Proofs.YtbnoihpooeombaaDoorW.PrintLast Go.Proofs.YtbnoihpooeombaaDoorW.PrintMore Go.Proofs.YtbnoihpooeombaaDoor.P
set_option linter.unusedVariables false
set_option linter.unusedSimpArgs false
def cmpB (a b : ByteArray) : Int := if lessB a b = true then -1 else if (a.toList == b.toList) = true then 0 else 1
theorem qDs (a : ByteArray) : cmp_isNaN_string.f a = some false := by
  unfold cmp_isNaN_string.f
  simp
set_option maxHeartbeats 1600000 in
theorem qEj (a b : ByteArray) (w : World) : Calls Tryd.prog 84 #[.string a, .string b] w fun e w' => e = .returned (.int .i64 (cmpB a b)) ∧ Below w.heap.size w w' := by
  have h1 := qDs a
  have h2 := qDs b
  have H1 := Aside0.mk h1
  have H2 := Aside0.mk h2
  clear h1 h2
  have HC := Aside0.mk (rfl : cmpB a b = if lessB a b = true then -1 else if (a.toList == b.toList) = true then 0 else 1)
  obtain ⟨b1, hb1⟩ : ∃ b1, Op.bytesLess a.toList b.toList = b1 := ⟨_, rfl⟩
  obtain ⟨b2, hb2⟩ : ∃ b2, (a.toList == b.toList) = b2 := ⟨_, rfl⟩
  have hc : cmpB a b = if b1 = true then -1 else if b2 = true then 0 else 1 := by rw [HC.out, ← hb1, ← hb2]; rfl
  clear HC
  have hb3 : (a.toList != b.toList) = !b2 := by rw [← hb2]; rfl
  generalize cmpB a b = c at *
  have HC := Aside0.mk hc
  clear hc
  go_enter Tryd.func84, Tryd.ntmps84
  go_wp2_with fail
  refine (cmp_isNaN_string.calls a false w H1.out).mono ?_
  rintro e w1 ⟨rfl, hd1⟩
  go_wp2_with fail
  refine (cmp_isNaN_string.calls b false w1 H2.out).mono ?_
  rintro e w2 ⟨rfl, hd2⟩
  have hd := Aside0.mk (qAd hd1.below hd2.below)
  clear hd1 hd2
  cases b1 <;> cases b2
  all_goals
    have hc := HC.out
    simp only [Bool.false_eq_true, if_false, if_true, reduceIte] at hc
    subst hc
    go_wp2_with fail
    go_ret
    exact ⟨rfl, hd.out⟩
set_option maxHeartbeats 1600000 in
theorem qCe (x : S68) (d : ByteArray) (w : World) : Calls Tryd.prog 83 #[.agg #[.string x.f0, .string x.f1], .string d] w fun e w' => e = .returned (.int .i64 (cmpB x.f0 d)) ∧ Below w.heap.size w w' := by
  have HB := Aside0.mk (qAb (Below.refl w.heap.size w) (.cells #[.string x.f0, .string x.f1] 68))
  go_enter Tryd.func83, Tryd.ntmps83
  go_wp2_with fail
  refine (qEj x.f0 d _).mono ?_
  rintro e w1 ⟨rfl, hd⟩
  have HB1 := Aside0.mk (qAd HB.out hd)
  clear hd
  go_wp2_with fail
  go_ret
  exact ⟨rfl, HB1.out⟩
def dgs (L : List S68) : List ByteArray := L.map (·.f0)
theorem qAj (L : List S68) : (dgs L).length = L.length := by simp [dgs]
theorem qAu (L : List S68) (i : Nat) (h : i < L.length) : (dgs L)[i]'(by rw [qAj]; exact h) = L[i].f0 := by simp [dgs]
theorem qBa (l : List S68) (i : Nat) (h : i < l.length) : rd_T68 l (i : Int) = l[i] := by
  simp [rd_T68, List.getD_eq_getElem?_getD, h]
theorem cmp_lt (a b : ByteArray) : (cmpB a b < 0) ↔ lessB a b = true := by
  unfold cmpB
  split
  · rename_i h; simp [h]
  · rename_i h
    split <;> simp [h]
theorem cmp_eq (a b : ByteArray) : (cmpB a b = 0) ↔ a = b := by
  unfold cmpB
  split
  · rename_i h
    constructor
    · intro e; cases e
    · intro e; subst e; rw [qAt] at h; cases h
  · split
    · rename_i h; simp only [true_iff]; exact (qAw a b).1 (beq_iff_eq.1 h)
    · rename_i h
      constructor
      · intro e; cases e
      · intro e; subst e; simp at h
set_option maxHeartbeats 4000000 in
set_option maxRecDepth 100000 in
theorem qCq (A : Option Addr) (c : Nat) (L : List S68) (d : ByteArray) (w : World) (hr : Kd.C k68 w A L.length L) (hc : L.length ≤ c) (hs : qAh (dgs L) = true) (hn : L.length ≤ 1000000) :
    Calls Tryd.prog 82 #[.slice A L.length c, .string d, .func (.func 83) #[] #[]] w fun e w' => e = .returned (.tuple #[.int .i64 (posK (dgs L) d : Nat), .bool (isK (dgs L) d)]) ∧ Below w.heap.size w w' := by
  have X := Aside0.mk hr
  have HS := Aside0.mk hs
  have HB0 := Aside0.mk (Below.refl w.heap.size w)
  have hpl : posK (dgs L) d ≤ L.length := by have := qBr (dgs L) d; rw [qAj] at this; exact this
  have HPI := Aside0.mk (fun (i : Nat) (h : i < L.length) => (by
    have := qA4 (dgs L) d hs i (by rw [qAj]; exact h)
    rw [qAu L i h] at this
    exact this : lessB L[i].f0 d = true ↔ i < posK (dgs L) d))
  have HII := Aside0.mk (by
    unfold isK
    rw [decide_eq_decide]
    constructor
    · rintro ⟨h, e⟩
      rw [qAj] at h
      refine ⟨h, ?_⟩
      rw [qAu L _ h] at e
      exact e
    · rintro ⟨h, e⟩
      refine ⟨by rw [qAj]; exact h, ?_⟩
      rw [qAu L _ h]
      exact e : isK (dgs L) d = decide (∃ h : posK (dgs L) d < L.length, L[posK (dgs L) d].f0 = d))
  generalize posK (dgs L) d = p at *
  generalize isK (dgs L) d = q at *
  clear hr hs
  go_enter Tryd.func82, Tryd.ntmps82
  go_wp2_with fail
  go_loopw [9, 10] (fun v9 v10 wr => ∃ i j : Nat, v9 = .int .i64 i ∧ v10 = .int .i64 j ∧ i ≤ p ∧ p ≤ j ∧ j ≤ L.length ∧ Aside0 (Below w.heap.size w wr)) (fun a b _ => (intOf b - intOf a).toNat)
  case atStart => exact ⟨0, L.length, rfl, rfl, by omega, by omega, by omega, HB0⟩
  case round =>
    obtain ⟨i, j, rfl, rfl, hi, hj, hjl, HB⟩ := hrel
    clear HB0
    by_cases hlt : i < j
    · have hcond : decide ((i : Int) < (j : Int)) = true := by simp; omega
      have hh0 : 0 ≤ ((i : Int) + (j : Int)) / 2 := by omega
      have hh1 : ((i : Int) + (j : Int)) / 2 < (L.length : Int) := by omega
      obtain ⟨ad, rfl, z0, z1⟩ := at_T68 (Kd.C_below X.out HB.out) (((i : Int) + (j : Int)) / 2) hh0 hh1
      rw [show (((i : Int) + (j : Int)) / 2).toNat = (i + j) / 2 by omega] at z0 z1
      have HX := Aside0.mk (show rd_T68 L (((i : Int) + (j : Int)) / 2) = L[(i + j) / 2]'(by omega) from by rw [show ((i : Int) + (j : Int)) / 2 = (((i + j) / 2 : Nat) : Int) by omega]; exact qBa L _ (by omega))
      generalize rd_T68 L (((i : Int) + (j : Int)) / 2) = x at *
      have hpi := HPI.out ((i + j) / 2) (by omega)
      rw [← HX.out] at hpi
      go_wp2_with fail
      refine (qCe x d wr).mono ?_
      rintro e w1 ⟨rfl, hb1⟩
      have HB1 := Aside0.mk (qAd HB.out hb1)
      clear hb1 z0 z1
      cases hl : lessB x.f0 d with
      | true =>
        have hcm : decide (cmpB x.f0 d < 0) = true := decide_eq_true ((cmp_lt _ _).2 hl)
        have hp := hpi.1 hl
        generalize cmpB x.f0 d = cb at *
        clear hl hpi HX HB
        go_wp2_with fail
        go_roundw
        case rel => exact ⟨(i + j) / 2 + 1, j, by rw [show ((((i + j) / 2 + 1 : Nat)) : Int) = ((i : Int) + (j : Int)) / 2 + 1 by omega], rfl, by omega, hj, hjl, HB1⟩
        case measure => simp [intOf]; omega
      | false =>
        have hcm : decide (cmpB x.f0 d < 0) = false := by
          rw [decide_eq_false_iff_not, cmp_lt, hl]
          simp
        have hp : ¬ (i + j) / 2 < p := fun c => by rw [hpi.2 c] at hl; cases hl
        generalize cmpB x.f0 d = cb at *
        clear hl hpi HX HB
        go_wp2_with fail
        go_roundw
        case rel => exact ⟨i, (i + j) / 2, rfl, by rw [show ((((i + j) / 2 : Nat)) : Int) = ((i : Int) + (j : Int)) / 2 by omega], hi, by omega, by omega, HB1⟩
        case measure => simp [intOf]; omega
    · have hcond : decide ((i : Int) < (j : Int)) = false := by simp; omega
      have hcondn : decide (i < j) = false := by simp; omega
      obtain rfl : i = p := by omega
      clear hlt
      by_cases hil : i < L.length
      · have hilc : decide ((i : Int) < (L.length : Int)) = true := by simp; omega
        have hilcn : decide (i < L.length) = true := by simp; omega
        have hi0 : 0 ≤ (i : Int) := by omega
        obtain ⟨ad, rfl, z0, z1⟩ := at_T68 (Kd.C_below X.out HB.out) (i : Int) hi0 (by omega)
        simp only [Int.toNat_natCast] at z0 z1
        have HX := Aside0.mk (qBa L i hil)
        generalize rd_T68 L (i : Int) = x at *
        have HQ := Aside0.mk (show q = (cmpB x.f0 d == 0) by
          rw [HII.out, Bool.eq_iff_iff, decide_eq_true_eq, beq_iff_eq, cmp_eq, HX.out]
          exact ⟨fun ⟨_, h⟩ => h, fun h => ⟨hil, h⟩⟩)
        clear HX HII HPI
        go_wp2_with fail
        refine (qCe x d wr).mono ?_
        rintro e w1 ⟨rfl, hb1⟩
        have HB1 := Aside0.mk (qAd HB.out hb1)
        clear hb1 z0 z1 HB
        generalize cmpB x.f0 d = cb at *
        go_wp2_with fail
        go_ret2
        exact ⟨by rw [HQ.out]; rfl, HB1.out⟩
      · have hilc : decide ((i : Int) < (L.length : Int)) = false := by simp; omega
        have hilcn : decide (i < L.length) = false := by simp; omega
        have HQ := Aside0.mk (show q = false by
          rw [HII.out, decide_eq_false_iff_not]
          exact fun ⟨h, _⟩ => hil h)
        clear HII HPI hil
        go_wp2_with fail
        go_ret2
        exact ⟨by rw [HQ.out]; rfl, HB.out⟩
end Go.Proofs.YtbnoihpooeombaaDoor.X

namespace Go.Proofs.YtbnoihpooeombaaDoor.X
open Go.RowKit Go.Proofs.YtbnoihpooeombaaDoorW.PrintWords Go.Proofs.YtbnoihpooeombaaDoorW.PrintLast Go.Proofs.YtbnoihpooeombaaDoorW.PrintMore Go.Proofs.YtbnoihpooeombaaDoor.P
set_option linter.unusedVariables false
set_option linter.unusedSimpArgs false
set_option maxHeartbeats 3200000 in
set_option maxRecDepth 100000 in
theorem qDl (v : Value) (n base vb tv : Nat) (xs ys : List Value) (w : World) (ho : w.ownsRow base 68 2 v n xs) (hv : w.heap[vb]? = some (.cells ys.toArray tv (0, 0))) (hys : ys.length = 2) (hbase : base ≤ w.heap.size) (hbig : (n + 1) * 32 ≤ 140737488355328) (h1y : ∀ u ∈ ys, u.oneCell' = true) :
    Calls Tryd.prog 59 #[v, .int .i64 n, .slice (some ⟨vb, 0, none⟩) 1 1] w fun e w' => ∃ v', e = .returned v' ∧ w'.ownsRow base 68 2 v' (n + 1) (xs ++ ys) ∧ w.grownBy w' v.ownBlock ∧ (v'.ownBlock = v.ownBlock ∨ ∃ b, v'.ownBlock = some b ∧ w.heap.size ≤ b) := by
  obtain ⟨i0, hi0, hz0, hzs, hzb⟩ := info_parts (show (Tryd.prog.info? 68).map (fun i => (i.zero, i.size, i.bytes)) = some (some (.agg #[.string ⟨#[]⟩, .string ⟨#[]⟩]), 2, 32) by kernel_rfl)
  obtain ⟨hl, hcase⟩ := ho
  have hcy : ∀ j u, ys[j]? = some u → w.cell? ((⟨vb, 0, none⟩ : Addr).add j) = some u := fun j u hj => by
    rw [qAx, qAy hv j]; simpa using hj
  rcases hcase with ⟨rfl, rfl⟩ | ⟨g, cap, cur, rfl, hgb, hg, hnc, hcm, hcs, htk⟩
  · obtain rfl : xs = [] := List.length_eq_zero_iff.1 (by omega)
    have hap := fun ty => run_append_grow_src (P := Tryd.prog) (w := w) 55 55 ty 68 i0 _ Tryd.underlying55 hi0 hz0 none 0 0 []
      (run_firstCells_none _ _ _ _ _) (.slice (some ⟨vb, 0, none⟩) 1 1) 1 ys
      (by rw [hzs]; exact Src.ofSlice _ Tryd.underlying55 ⟨vb, 0, none⟩ 1 1 ys (by omega) hcy h1y) (by omega) (by omega) (by rw [hzb]; exact growslice_fits (by omega) (by omega))
    have hge := grownCap_ge w (0 + 1) 0 68
    have hle := grownCap_le_maxLen w (0 + 1) 0 68 (by unfold maxLen; omega)
    generalize grownCap w (0 + 1) 0 68 = G at *
    simp only [Nat.zero_add, List.nil_append] at hap hge
    have HAP := Aside0.mk hap
    have HGE := Aside0.mk hge
    have HLE := Aside0.mk hle
    clear hap hge hle hcy hl hv
    go_enter Tryd.func59, Tryd.ntmps59
    go_wp2_with (at_builtin; refine qAk rfl _ _ 55 55 rfl _ _ _ _ rfl rfl (HAP.out _) ?_)
    go_ret
    exact ⟨_, rfl, qB7 (size := 2) (z := (.agg #[.string ⟨#[]⟩, .string ⟨#[]⟩] : Value).cells) (by omega) rfl HGE.out HLE.out _ rfl hbase, qA7 (qAc (qAb (Below.refl _ _) _)) _, .inr ⟨_, rfl, Nat.le_refl _⟩⟩
  · have hcx : ∀ j u, xs[j]? = some u → w.cell? ((⟨g, 0, none⟩ : Addr).add j) = some u := fun j u hj => by
      rw [qAx]; exact qA9 hg htk j u hj
    unfold maxLen at hcm
    by_cases hroom : n + 1 ≤ cap
    · have hap := fun ty => run_append_room (P := Tryd.prog) w 55 ty 68 i0 Tryd.underlying55 hi0 g n cap cur hg ⟨vb, 0, none⟩ 1 1 ys (by rw [hzs]; omega) hcy h1y hroom (by rw [hzs, hcs, hys]; have := Nat.mul_le_mul_right 2 hroom; omega)
      have HAP := Aside0.mk hap
      have HG := Aside0.mk hg
      have HT := Aside0.mk htk
      clear hap hcy hcx hv htk hg
      go_enter Tryd.func59, Tryd.ntmps59
      go_wp2_with (at_builtin; refine qAk rfl _ _ 55 55 rfl _ _ _ _ rfl rfl (HAP.out _) ?_)
      go_ret
      refine ⟨_, rfl, ⟨by rw [List.length_append, hl, hys]; omega, .inr ⟨g, cap, _, rfl, hgb, setRow_heap _ _ _ _ _ _ HG.out, hroom, by unfold maxLen; omega, ?_, ?_⟩⟩, qBb _ _ _, .inl rfl⟩
      · have h2 := Nat.mul_le_mul_right 2 hroom
        simp only [hzs, List.size_toArray, List.length_append, List.length_take, List.length_drop, Array.length_toList, hcs, hys]
        omega
      · have HT' : cur.toList.take (n * 2) = xs := HT.out
        simp only [hzs, Nat.mul_one] at HT' ⊢
        rw [HT', ← List.append_assoc, List.take_append_of_le_length (by rw [List.length_append, hl, hys]; omega), List.take_of_length_le (by rw [List.length_append, hl, hys]; omega)]
    · have hap := fun ty => run_append_grow_src (P := Tryd.prog) (w := w) 55 55 ty 68 i0 _ Tryd.underlying55 hi0 hz0 (some ⟨g, 0, none⟩) n cap xs
        (by rw [hzs]; exact run_firstCells_some _ 2 n ⟨g, 0, none⟩ n cap xs hl hcx) (.slice (some ⟨vb, 0, none⟩) 1 1) 1 ys
        (by rw [hzs]; exact Src.ofSlice _ Tryd.underlying55 ⟨vb, 0, none⟩ 1 1 ys (by omega) hcy h1y) (by omega) (by omega) (by rw [hzb]; exact growslice_fits (by omega) (by omega))
      have hge := grownCap_ge w (n + 1) cap 68
      have hle := grownCap_le_maxLen w (n + 1) cap 68 (by unfold maxLen; omega)
      generalize grownCap w (n + 1) cap 68 = G at *
      have HAP := Aside0.mk hap
      have HGE := Aside0.mk hge
      have HLE := Aside0.mk hle
      clear hap hge hle hcy hcx hv
      go_enter Tryd.func59, Tryd.ntmps59
      go_wp2_with (at_builtin; refine qAk rfl _ _ 55 55 rfl _ _ _ _ rfl rfl (HAP.out _) ?_)
      go_ret
      exact ⟨_, rfl, qB7 (size := 2) (z := (.agg #[.string ⟨#[]⟩, .string ⟨#[]⟩] : Value).cells) (by rw [List.length_append, hl, hys]; omega) rfl HGE.out HLE.out _ rfl hbase, qA7 (qAc (qAb (Below.refl _ _) _)) _, .inr ⟨_, rfl, Nat.le_refl _⟩⟩
set_option maxHeartbeats 6400000 in
set_option maxRecDepth 100000 in
theorem qDk (v : Value) (n i base vb tv : Nat) (xs ys : List Value) (w : World) (ho : w.ownsRow base 68 2 v n xs) (hi : i < n) (hv : w.heap[vb]? = some (.cells ys.toArray tv (0, 0))) (hys : ys.length = 2) (hne : some vb ≠ v.ownBlock) (hbase : base ≤ w.heap.size) (hbig : (n + 1) * 32 ≤ 140737488355328) (h1x : ∀ u ∈ xs, u.oneCell' = true) (h1y : ∀ u ∈ ys, u.oneCell' = true) :
    Calls Tryd.prog 59 #[v, .int .i64 i, .slice (some ⟨vb, 0, none⟩) 1 1] w fun e w' => ∃ v', e = .returned v' ∧ w'.ownsRow base 68 2 v' (n + 1) (xs.take (i * 2) ++ (ys ++ xs.drop (i * 2))) ∧ w.grownBy w' v.ownBlock ∧ (v'.ownBlock = v.ownBlock ∨ ∃ b, v'.ownBlock = some b ∧ w.heap.size ≤ b) := by
  obtain ⟨i0, hi0, hz0, hzs, hzb⟩ := info_parts (show (Tryd.prog.info? 68).map (fun i => (i.zero, i.size, i.bytes)) = some (some (.agg #[.string ⟨#[]⟩, .string ⟨#[]⟩]), 2, 32) by kernel_rfl)
  have hsi : (Tryd.prog.info? 68).map (·.size) = some 2 := by rw [hi0]; simp [hzs]
  obtain ⟨hl, hcase⟩ := ho
  rcases hcase with ⟨_, h0⟩ | ⟨g, cap, cur, rfl, hgb, hg, hnc, hcm, hcs, htk⟩
  · omega
  have hng : vb ≠ g := fun e => hne (by rw [e]; rfl)
  unfold maxLen at hcm
  have hnc1 : ¬ (cap = i) := by omega
  have hin : ¬ ((i : Int) = (n : Int)) := by omega
  have mixed : Tryd.prog.follows .mixedOrders = true := by kernel_rfl
  have hb1 : (0 : Int) ≤ (i : Int) + 1 := by omega
  have hin' : i ≤ n := by omega
  have htn : ((i : Int) + 1).toNat = i + 1 := by omega
  have hb3 : (i : Int) ≤ (n : Int) + 1 := by omega
  have hdl : (xs.drop (i * 2)).length = (n - i) * 2 := by rw [List.length_drop, hl]; omega
  by_cases hroom : n + 1 ≤ cap
  · have hw1 : IntKind.i64.wrap ((i : Int) + 1) = ((i + 1 : Nat) : Int) := by rw [IntKind.wrap_i64]; omega
    have hnc2 : ¬ (cap = i + 1) := by omega
    have hov : ∀ lb cb W, W.heap[vb]? = some (.cells ys.toArray tv (0, 0)) → W.heap[g]? = some (.cells cur 68 (0, 0)) → (callFunc 85 #[.slice (some ⟨vb, 0, none⟩) 1 1, .slice (some ⟨g, (i + 1) * 2, none⟩) lb cb]).run Tryd.prog W = .ok (.value (.bool false)) W := fun lb cb W hv hg => by
      rw [run_callFunc_extern Tryd.func85 (by kernel_rfl) (by kernel_rfl) (by kernel_rfl) (e := Extern.SlicesOverlaps.overlaps #[55, 55] #[4]) (by kernel_rfl),
        Lib.run_overlaps_apart W 55 4 68 Tryd.underlying55 2 Tryd.sizeOf68 ⟨vb, 0, none⟩ ⟨g, (i + 1) * 2, none⟩ 1 1 lb cb hng tv 68 ys.length (cap * 2) (by simp [World.shape?, hv]) (by simp [World.shape?, hg, hcs]) (by omega) (qA2 hv 0) (qA2 hv _)]
      rfl
    have h6 : (n - i) * 2 + i * 2 = n * 2 := by rw [← Nat.add_mul]; congr 1; omega
    have h7 : (i + 1) * 2 + (n - i) * 2 ≤ cap * 2 := by rw [← Nat.add_mul]; exact Nat.mul_le_mul_right _ (by omega)
    have h8 : i * 2 + 2 ≤ cap * 2 := by
      have := Nat.mul_le_mul_right 2 (show i + 1 ≤ cap by omega)
      rw [Nat.add_mul] at this; omega
    obtain ⟨cur1, hcur1⟩ : ∃ c : Array Value, c = (cur.toList.take ((i + 1) * 2) ++ xs.drop (i * 2) ++ cur.toList.drop ((i + 1) * 2 + (xs.drop (i * 2)).length)).toArray := ⟨_, rfl⟩
    obtain ⟨cur2, hcur2⟩ : ∃ c : Array Value, c = (cur1.toList.take (i * 2) ++ ys ++ cur1.toList.drop (i * 2 + ys.length)).toArray := ⟨_, rfl⟩
    have hc1s : cur1.size = cap * 2 := by
      rw [hcur1]; simp only [List.size_toArray, List.length_append, List.length_take, List.length_drop, Array.length_toList, hcs, hl]; omega
    have hc2s : cur2.size = cap * 2 := by
      rw [hcur2]; simp only [List.size_toArray, List.length_append, List.length_take, List.length_drop, Array.length_toList, hc1s, hys]; omega
    have hcp1 : ∀ W : World, W.heap[g]? = some (.cells cur 68 (0, 0)) → ∀ ty dc sc, (Builtin.copy_ #[55, 55] ty #[.slice (some ⟨g, (i + 1) * 2, none⟩) (n - i) dc, .slice (some ⟨g, i * 2, none⟩) (n + 1 - i) sc]).run Tryd.prog W = .ok (goInt (n - i : Nat)) (W.setRow g cur1) := fun W hW ty dc sc => by
      rw [hcur1]
      exact qAr W _ _ ty _ g ((i + 1) * 2) (n - i) dc ⟨g, i * 2, none⟩ (n + 1 - i) sc cur _ (xs.drop (i * 2)) 2 (n - i) Tryd.underlying55 hsi hW (by simp only [Nat.min_def]; split <;> omega) hdl
        (fun j u hj => by
          rw [Addr.add_lit]
          exact qA9 hW htk _ u (by rw [List.getElem?_drop] at hj; exact (congrArg (fun k => xs[k]?) (by omega)).trans hj)) (by rw [hdl, hcs]; omega) (fun u hu => h1x u (List.mem_of_mem_drop hu))
    have hcp2 : ∀ W : World, W.heap[g]? = some (.cells cur1 68 (0, 0)) → W.heap[vb]? = some (.cells ys.toArray tv (0, 0)) → ∀ ty dc, (Builtin.copy_ #[55, 55] ty #[.slice (some ⟨g, i * 2, none⟩) (n + 1 - i) dc, .slice (some ⟨vb, 0, none⟩) 1 1]).run Tryd.prog W = .ok (goInt (1 : Nat)) (W.setRow g cur2) := fun W hW hV ty dc => by
      rw [hcur2]
      exact qAr W _ _ ty _ g (i * 2) (n + 1 - i) dc ⟨vb, 0, none⟩ 1 1 cur1 _ ys 2 1 Tryd.underlying55 hsi hW (by simp only [Nat.min_def]; split <;> omega) (by omega)
        (fun j u hj => by rw [qAx, qAy hV j]; simpa using hj) (by rw [hys, hc1s]; omega) h1y
    have h9 : i * 2 + (n - i) * 2 = n * 2 := by omega
    have htk2 : cur2.toList.take ((n + 1) * 2) = xs.take (i * 2) ++ (ys ++ xs.drop (i * 2)) := by
      rw [hcur2, hcur1]
      exact qDj cur.toList xs ys (i * 2) 2 ((n - i) * 2) _ _ (by omega) (by omega) (by rw [h9]; exact htk) (by rw [h9]; exact hl) hys (by rw [Array.length_toList, hcs]; omega) _ (by omega)
    have HG := Aside0.mk hg
    have HV := Aside0.mk hv
    have HOV := Aside0.mk hov
    have HT := Aside0.mk htk
    have hov1 := fun lb cb => HOV.out lb cb w hv hg
    clear hg hv htk hov hdl
    go_enter Tryd.func59, Tryd.ntmps59
    have HC1 := Aside0.mk hcp1
    have HC2 := Aside0.mk hcp2
    have HT2 := Aside0.mk htk2
    clear hcp1 hcp2 htk2 hcur1 hcur2
    go_wp2_with (simp only [hov1])
    have hcd := HC1.out w.drew HG.out
    have HW1 := Aside0.mk (setRow_heap w.drew g cur cur1 _ _ HG.out)
    have HV1 := Aside0.mk ((setRow_other w.drew g vb cur1 hng).trans HV.out)
    have hce := HC2.out (w.drew.setRow g cur1) HW1.out HV1.out
    go_region_law_o (fail)
    go_wp2
    go_ret
    exact ⟨_, rfl, ⟨by simp only [List.length_append, List.length_take, List.length_drop, hl, hys]; omega, .inr ⟨g, cap, cur2, rfl, hgb, setRow_heap _ _ _ _ _ _ HW1.out, hroom, by unfold maxLen; omega, hc2s, HT2.out⟩⟩, qCo (qCo (qA7 (qAc (Below.refl _ _)) _) (qBb _ _ _)) (qBb _ _ _), .inl rfl⟩
  · have hw1 : IntKind.i64.wrap ((i : Int) + 1) = (i : Int) + 1 := by rw [IntKind.wrap_i64]; omega
    have hz3 : (cap : Int) < (n : Int) + 1 := by omega
    have hkk : (n : Int) + 1 - (i : Int) = ((n + 1 - i : Nat) : Int) := by omega
    have hik : i + (n + 1 - i) = n + 1 := by omega
    have h6 : (n - i) * 2 + i * 2 = n * 2 := by rw [← Nat.add_mul]; congr 1; omega
    have hxt : (xs.take (i * 2)).length = i * 2 := by rw [List.length_take, hl]; omega
    have hcx : ∀ j u, xs[j]? = some u → w.cell? ((⟨g, 0, none⟩ : Addr).add j) = some u := fun j u hj => by
      rw [qAx]; exact qA9 hg htk j u hj
    have hap0 := fun ty => Lib.run_append_grow_zeros (P := Tryd.prog) w 55 3 ty 68 i0 _ .i64 .i64 Tryd.underlying55 Tryd.underlying3 hi0 hz0 (some ⟨g, 0, none⟩) i cap (xs.take (i * 2))
      (by rw [hzs]; exact run_firstCells_some _ 2 i ⟨g, 0, none⟩ i cap _ hxt (fun j u hj => by
        rw [List.getElem?_take] at hj
        split at hj
        · exact hcx j u hj
        · cases hj)) (n + 1 - i) (by omega) (by rw [hzs]; omega) (by omega) (by omega) (by rw [hzb]; omega) (by rw [hzb, hik]; exact growslice_fits (by omega) hbig)
    rw [hik] at hap0
    have hge := grownCap_ge w (n + 1) cap 68
    have hle := grownCap_le_maxLen w (n + 1) cap 68 (by unfold maxLen; omega)
    generalize grownCap w (n + 1) cap 68 = G at *
    unfold maxLen at hle
    obtain ⟨ROW, hROW⟩ : ∃ R : Array Value, R = (xs.take (i * 2)).toArray ++ Builtin.zeroCells (.agg #[.string ⟨#[]⟩, .string ⟨#[]⟩] : Value).cells (n + 1 - i) ++ Builtin.zeroCells (.agg #[.string ⟨#[]⟩, .string ⟨#[]⟩] : Value).cells (G - (n + 1)) := ⟨_, rfl⟩
    rw [← hROW] at hap0
    have hzc : (.agg #[.string ⟨#[]⟩, .string ⟨#[]⟩] : Value).cells.size = 2 := rfl
    have hRs : ROW.size = G * 2 := by
      rw [hROW]
      simp only [Array.size_append, qBe, hzc, List.size_toArray, hxt]
      rw [← Nat.add_mul, ← Nat.add_mul]
      congr 1
      omega
    have hRt : ROW.toList.take (i * 2) = xs.take (i * 2) := by
      rw [hROW, Array.toList_append, Array.toList_append, List.append_assoc, List.take_append_of_le_length (by simp only [hxt]; omega)]
      exact List.take_of_length_le (by simp only [hxt]; omega)
    have h7 : (i + 1) * 2 + (n - i) * 2 ≤ G * 2 := by rw [← Nat.add_mul]; exact Nat.mul_le_mul_right _ (by omega)
    have h8 : i * 2 + 2 = (i + 1) * 2 := by omega
    obtain ⟨cur1, hcur1⟩ : ∃ c : Array Value, c = (ROW.toList.take (i * 2) ++ ys ++ ROW.toList.drop (i * 2 + ys.length)).toArray := ⟨_, rfl⟩
    obtain ⟨cur2, hcur2⟩ : ∃ c : Array Value, c = (cur1.toList.take ((i + 1) * 2) ++ xs.drop (i * 2) ++ cur1.toList.drop ((i + 1) * 2 + (xs.drop (i * 2)).length)).toArray := ⟨_, rfl⟩
    have hc1s : cur1.size = G * 2 := by
      rw [hcur1]; simp only [List.size_toArray, List.length_append, List.length_take, List.length_drop, Array.length_toList, hRs, hys]; omega
    have hc2s : cur2.size = G * 2 := by
      rw [hcur2]; simp only [List.size_toArray, List.length_append, List.length_take, List.length_drop, Array.length_toList, hc1s, hl]; omega
    have hcp1 : ∀ W : World, W.heap[w.heap.size]? = some (.cells ROW 68 (0, 0)) → W.heap[vb]? = some (.cells ys.toArray tv (0, 0)) → ∀ ty dc, (Builtin.copy_ #[55, 55] ty #[.slice (some ⟨w.heap.size, i * 2, none⟩) (n + 1 - i) dc, .slice (some ⟨vb, 0, none⟩) 1 1]).run Tryd.prog W = .ok (goInt (1 : Nat)) (W.setRow w.heap.size cur1) := fun W hW hV ty dc => by
      rw [hcur1]
      exact qAr W _ _ ty _ w.heap.size (i * 2) (n + 1 - i) dc ⟨vb, 0, none⟩ 1 1 ROW _ ys 2 1 Tryd.underlying55 hsi hW (by simp only [Nat.min_def]; split <;> omega) (by omega)
        (fun j u hj => by rw [qAx, qAy hV j]; simpa using hj) (by rw [hys, hRs]; omega) h1y
    have hcp2 : ∀ W : World, W.heap[w.heap.size]? = some (.cells cur1 68 (0, 0)) → W.heap[g]? = some (.cells cur 68 (0, 0)) → ∀ ty dc sc, (Builtin.copy_ #[55, 55] ty #[.slice (some ⟨w.heap.size, (i + 1) * 2, none⟩) (n - i) dc, .slice (some ⟨g, i * 2, none⟩) (n - i) sc]).run Tryd.prog W = .ok (goInt (n - i : Nat)) (W.setRow w.heap.size cur2) := fun W hW hG ty dc sc => by
      rw [hcur2]
      exact qAr W _ _ ty _ w.heap.size ((i + 1) * 2) (n - i) dc ⟨g, i * 2, none⟩ (n - i) sc cur1 _ (xs.drop (i * 2)) 2 (n - i) Tryd.underlying55 hsi hW (by simp only [Nat.min_def]; split <;> omega) hdl
        (fun j u hj => by
          rw [Addr.add_lit]
          exact qA9 hG htk _ u (by rw [List.getElem?_drop] at hj; exact (congrArg (fun k => xs[k]?) (by omega)).trans hj)) (by rw [hdl, hc1s]; omega) (fun u hu => h1x u (List.mem_of_mem_drop hu))
    have htk2 : cur2.toList.take ((n + 1) * 2) = xs.take (i * 2) ++ (ys ++ xs.drop (i * 2)) := by
      have e1 : cur1.toList.take ((i + 1) * 2) = xs.take (i * 2) ++ ys := by
        rw [hcur1]
        have : (ROW.toList.take (i * 2) ++ ys).length = (i + 1) * 2 := by
          rw [List.length_append, List.length_take, Array.length_toList, hRs, hys]; omega
        rw [List.take_append_of_le_length (by omega), List.take_of_length_le (by omega)]
        rw [show ROW.toList.take (i * 2) = xs.take (i * 2) from (congrArg (fun k => ROW.toList.take k) (by omega)).trans hRt]
      rw [hcur2, e1]
      have e4 : (xs.take (i * 2) ++ ys ++ xs.drop (i * 2)).length = (n + 1) * 2 := by
        rw [List.length_append, List.length_append, hxt, hys, hdl]; omega
      rw [List.take_append_of_le_length (by omega), List.take_of_length_le (by omega), List.append_assoc]
    have hap1 : ∀ ty, (Builtin.append_ #[55, 3] ty #[.slice (some ⟨g, 0, none⟩) i cap, .int .i64 ((n : Int) + 1 - (i : Int))]).run Tryd.prog w = .ok (.slice (some ⟨w.heap.size, 0, none⟩) (n + 1) G) (w.drew.alloc (.cells ROW 68)) := fun ty => by
      rw [hkk]; exact hap0 ty
    have HAP := Aside0.mk hap1
    have HC1 := Aside0.mk hcp1
    have HC2 := Aside0.mk hcp2
    have HT2 := Aside0.mk htk2
    have HG := Aside0.mk hg
    have HV := Aside0.mk hv
    have hgl := blk_lt hg
    have hvl := blk_lt hv
    have HN0 := Aside0.mk (qAq w.drew (.cells ROW 68))
    have HG0 := Aside0.mk (blk_alloc' (w := w.drew) hg (.cells ROW 68))
    have HV0 := Aside0.mk (blk_alloc' (w := w.drew) hv (.cells ROW 68))
    have HB0 := Aside0.mk (qAb (qAc (Below.refl w.heap.size w)) (.cells ROW 68))
    have hGi : ¬ (G = i) := by omega
    have hGim : ¬ (G = i + 1) := by omega
    have hcdA := HC1.out ((w.alloc (.cells ROW 68)).drew) HN0.out HV0.out
    have HW1 := Aside0.mk (setRow_heap ((w.alloc (.cells ROW 68)).drew) w.heap.size ROW cur1 _ _ HN0.out)
    have HG1 := Aside0.mk ((setRow_other ((w.alloc (.cells ROW 68)).drew) w.heap.size g cur1 (by omega)).trans HG0.out)
    have hcdB := HC2.out ((((w.alloc (.cells ROW 68)).drew).setRow w.heap.size cur1).drew) HW1.out HG1.out
    have HW2 := Aside0.mk (setRow_heap ((((w.alloc (.cells ROW 68)).drew).setRow w.heap.size cur1).drew) w.heap.size cur1 cur2 _ _ HW1.out)
    have HBF := Aside0.mk (below_setRow (qAc (below_setRow (qAc (qAb (Below.refl w.heap.size w) (.cells ROW 68))) (Nat.le_refl _) cur1)) (Nat.le_refl _) cur2)
    clear hap0 hap1 hcp1 hcp2 htk2 hg hv htk hcx hcur1 hcur2 hROW hRt hRs hdl hxt hkk hik
    go_enter Tryd.func59, Tryd.ntmps59
    go_wp2_with (at_builtin; refine qAk rfl _ _ 55 3 rfl _ _ _ _ rfl rfl (HAP.out _) ?_)
    go_region_law_o (fail)
    go_wp2
    go_ret
    exact ⟨_, rfl, ⟨by simp only [List.length_append, List.length_take, List.length_drop, hl, hys]; omega, .inr ⟨w.heap.size, G, cur2, rfl, hbase, HW2.out, hge, by unfold maxLen; omega, hc2s, HT2.out⟩⟩, qA7 HBF.out _, .inr ⟨_, rfl, Nat.le_refl _⟩⟩
theorem qDm (v : Value) (n i base vb tv : Nat) (xs ys : List Value) (w : World) (ho : w.ownsRow base 68 2 v n xs) (hi : i ≤ n) (hv : w.heap[vb]? = some (.cells ys.toArray tv (0, 0))) (hys : ys.length = 2) (hne : some vb ≠ v.ownBlock) (hbase : base ≤ w.heap.size) (hbig : (n + 1) * 32 ≤ 140737488355328) (h1x : ∀ u ∈ xs, u.oneCell' = true) (h1y : ∀ u ∈ ys, u.oneCell' = true) :
    Calls Tryd.prog 59 #[v, .int .i64 i, .slice (some ⟨vb, 0, none⟩) 1 1] w fun e w' => ∃ v', e = .returned v' ∧ w'.ownsRow base 68 2 v' (n + 1) (xs.take (i * 2) ++ (ys ++ xs.drop (i * 2))) ∧ w.grownBy w' v.ownBlock ∧ (v'.ownBlock = v.ownBlock ∨ ∃ b, v'.ownBlock = some b ∧ w.heap.size ≤ b) := by
  by_cases c : i < n
  · exact qDk v n i base vb tv xs ys w ho c hv hys hne hbase hbig h1x h1y
  · have e : i = n := by omega
    subst e
    rw [List.take_of_length_le (by rw [ho.1]; omega), List.drop_of_length_le (by rw [ho.1]; omega), List.append_nil]
    exact qDl v i base vb tv xs ys w ho hv hys hbase hbig h1y
end Go.Proofs.YtbnoihpooeombaaDoor.X

namespace Go.Proofs.YtbnoihpooeombaaDoor.P
open Go.Proofs.YtbnoihpooeombaaDoor.X
open Go.RowKit Go.Proofs.YtbnoihpooeombaaDoorW.PrintWords Go.Proofs.YtbnoihpooeombaaDoorW.PrintLast Go.Proofs.YtbnoihpooeombaaDoorW.PrintMore
set_option linter.unusedVariables false
set_option linter.unusedSimpArgs false
def sum_Next.f (a0 : Int) (a1 : Int) : Option (Int) := some (IntKind.u64.wrap ((Go.bits .xor .u64 a0 (IntKind.u64.wrap (a1))) * 1099511628211))
set_option maxHeartbeats 8000000 in
set_option maxRecDepth 100000 in
theorem sum_Next.calls (a0 : Int) (a1 : Int) (r : Int) (w : World) (h : sum_Next.f a0 a1 = some r) :
  Calls Tryd.prog 91 #[.int .u64 a0, .int .u8 a1] w fun e w' => e = .returned (.int .u64 r) ∧ Drawn0 w w' := by
 have H : (some (IntKind.u64.wrap ((Go.bits .xor .u64 a0 (IntKind.u64.wrap (a1))) * 1099511628211))) = some r := h
 clear h
 obtain rfl := Option.some.inj H
 go_enter Tryd.func91, Tryd.ntmps91
 go_wp2
 go_ret
 exact ⟨by first | rfl | (simp; done) | (simp [*]; done), by repeat (first | exact Drawn0.refl _ | apply Drawn0.step)⟩
end Go.Proofs.YtbnoihpooeombaaDoor.P

namespace Go.Proofs.YtbnoihpooeombaaDoor.P
open Go.Proofs.YtbnoihpooeombaaDoor.X
open Go.RowKit Go.Proofs.YtbnoihpooeombaaDoorW.PrintWords Go.Proofs.YtbnoihpooeombaaDoorW.PrintLast Go.Proofs.YtbnoihpooeombaaDoorW.PrintMore
set_option linter.unusedVariables false
set_option linter.unusedSimpArgs false
mutual
def sum_Of.l0 : Nat → Int → List (List Int) → Int → Int → Option (Int)
 | 0, _, _, _, _ => none
 | k + 1, x3, x8, x9, x10 => if x10 < x9 then (if 0 ≤ x10 then (if x10 < (x8.length : Int) then (sum_Of.l1 k x3 x8 x9 x10 (rd_L7 x8 x10) ((rd_L7 x8 x10).length : Int) 0) else (none)) else (none)) else (some x3)
def sum_Of.l1 : Nat → Int → List (List Int) → Int → Int → List Int → Int → Int → Option (Int)
 | 0, _, _, _, _, _, _, _ => none
 | k + 1, x3, x8, x9, x10, x14, x15, x16 => if x16 < x15 then (if 0 ≤ x16 then (if x16 < (x14.length : Int) then ((sum_Next.f x3 (rd x14 x16)).bind fun t506 => (sum_Of.l1 k t506 x8 x9 x10 x14 x15 (wrap64 (x16 + 1)))) else (none)) else (none)) else (sum_Of.l0 k x3 x8 x9 (wrap64 (x10 + 1)))
end
def sum_Of.f (k : Nat) (l0 : List (List Int)) : Option (Int) := sum_Of.l0 k 14695981039346656037 l0 (l0.length : Int) 0
set_option maxHeartbeats 8000000 in
set_option maxRecDepth 100000 in
theorem sum_Of.calls (k : Nat) (A0 : Option Addr) (c0 : Nat) (l0 : List (List Int)) (r : Int) (w : World) (hr0 : Kd.C (Kd.slice 5 (Kd.int .u8)) w A0 l0.length l0) (hc0 : l0.length ≤ c0) (h : sum_Of.f k l0 = some r) :
  Calls Tryd.prog 63 #[.slice A0 l0.length c0] w fun e w' => e = .returned (.int .u64 r) ∧ Drawn0 w w' := by
 have HR0 := Aside0.mk hr0
 have HC0 := Aside0.mk hc0
 clear hr0 hc0
 have H : (sum_Of.l0 k 14695981039346656037 l0 (l0.length : Int) 0) = some r := h
 clear h
 have H' := Aside0.mk H
 clear H
 go_enter Tryd.func63, Tryd.ntmps63
 go_wp2
 go_loopg [3, 10] k (fun kq v3 v10 w' => ∃ (x3_1 : Int) (x10_1 : Int), v3 = .int .u64 x3_1 ∧ v10 = .int .i64 x10_1 ∧ Aside0 (sum_Of.l0 kq x3_1 l0 (l0.length : Int) x10_1 = some r) ∧ Aside0 (kq ≤ k) ∧ Drawn0 w w')
 case atStart => exact ⟨(14695981039346656037), (0), (by first | rfl | (simp; done) | (simp [*]; done) | exact congrArg Value.bool (nil_ne _) | exact congrArg Value.bool (nil_eq _) | exact congrArg Value.bool (nil_ne' _)), (by first | rfl | (simp; done) | (simp [*]; done) | exact congrArg Value.bool (nil_ne _) | exact congrArg Value.bool (nil_eq _) | exact congrArg Value.bool (nil_ne' _)), H', ⟨Nat.le_refl _⟩, by repeat (first | exact Drawn0.refl _ | apply Drawn0.step)⟩
 case round =>
  clear H'
  obtain ⟨x3_1, x10_1, rfl, rfl, HA, HK1, ⟨m1, rfl⟩⟩ := hrel
  cases gk with
  | zero => exact absurd HA.out (by simp [sum_Of.l0])
  | succ k1 =>
   have H := HA.out
   clear HA
   simp only [sum_Of.l0] at H
   by_cases c2 : x10_1 < (l0.length : Int)
   ·rw [if_pos c2] at H
    have c2b0 : decide (x10_1 < (l0.length : Int)) = true := decide_eq_true c2
    clear c2
    by_cases c3 : 0 ≤ x10_1
    ·rw [if_pos c3] at H
     have c3b0 : decide (0 ≤ x10_1) = true := decide_eq_true c3
     clear c3
     by_cases c4 : x10_1 < (l0.length : Int)
     ·rw [if_pos c4] at H
      have c4b0 : decide (x10_1 < (l0.length : Int)) = true := decide_eq_true c4
      clear c4
      have H' := Aside0.mk H
      clear H
      have p504 : 0 ≤ (x10_1 : Int) := of_decide_eq_true (by first | (with_reducible assumption) | assumption)
      have q504 : x10_1 < (l0.length : Int) := of_decide_eq_true (by first | (with_reducible assumption) | assumption)
      obtain ⟨ad504, A504_0, c504_0, e504, hx504_0, hl504_0, hi504_0⟩ := at_L7 HR0.out x10_1 p504 q504
      cases e504
      have HR504_0 := Aside0.mk hi504_0
      have HC504_0 := Aside0.mk hl504_0
      clear hi504_0 hl504_0
      replace p504 := eq_true p504
      replace q504 := eq_true q504
      go_wp2
      go_loopg [3, 16] k1 (fun kq v3 v16 w' => ∃ (x3_2 : Int) (x16_2 : Int), v3 = .int .u64 x3_2 ∧ v16 = .int .i64 x16_2 ∧ Aside0 (sum_Of.l1 kq x3_2 l0 (l0.length : Int) x10_1 (rd_L7 l0 x10_1) ((rd_L7 l0 x10_1).length : Int) x16_2 = some r) ∧ Aside0 (kq ≤ k1) ∧ Drawn0 w w')
      case atStart => exact ⟨(x3_1), (0), (by first | rfl | (simp; done) | (simp [*]; done) | exact congrArg Value.bool (nil_ne _) | exact congrArg Value.bool (nil_eq _) | exact congrArg Value.bool (nil_ne' _)), (by first | rfl | (simp; done) | (simp [*]; done) | exact congrArg Value.bool (nil_ne _) | exact congrArg Value.bool (nil_eq _) | exact congrArg Value.bool (nil_ne' _)), H', ⟨Nat.le_refl _⟩, by repeat (first | exact Drawn0.refl _ | apply Drawn0.step)⟩
      case round =>
       clear H'
       try clear c2
       try clear c2b0
       try clear p2
       try clear c3
       try clear c3b0
       try clear c4
       try clear c4b0
       try clear hx504_0
       try clear p504
       try clear q504
       obtain ⟨x3_2, x16_2, rfl, rfl, HA, HK2, ⟨m2, rfl⟩⟩ := hrel
       cases gk with
       | zero => exact absurd HA.out (by simp [sum_Of.l1])
       | succ k2 =>
        have H := HA.out
        clear HA
        simp only [sum_Of.l1] at H
        by_cases c5 : x16_2 < ((rd_L7 l0 x10_1).length : Int)
        ·rw [if_pos c5] at H
         have c5b0 : decide (x16_2 < ((rd_L7 l0 x10_1).length : Int)) = true := decide_eq_true c5
         clear c5
         by_cases c6 : 0 ≤ x16_2
         ·rw [if_pos c6] at H
          have c6b0 : decide (0 ≤ x16_2) = true := decide_eq_true c6
          clear c6
          by_cases c7 : x16_2 < ((rd_L7 l0 x10_1).length : Int)
          ·rw [if_pos c7] at H
           have c7b0 : decide (x16_2 < ((rd_L7 l0 x10_1).length : Int)) = true := decide_eq_true c7
           clear c7
           replace H := Option.bind_eq_some_iff.mp H
           obtain ⟨t506, A80, H⟩ := H
           replace H : (sum_Of.l1 k2 t506 l0 (l0.length : Int) x10_1 (rd_L7 l0 x10_1) ((rd_L7 l0 x10_1).length : Int) (wrap64 (x16_2 + 1))) = some r := H
           have A8 := Aside0.mk A80
           clear A80
           have H' := Aside0.mk H
           clear H
           have p505 : 0 ≤ (x16_2 : Int) := of_decide_eq_true (by first | (with_reducible assumption) | assumption)
           have q505 : x16_2 < ((rd_L7 l0 x10_1).length : Int) := of_decide_eq_true (by first | (with_reducible assumption) | assumption)
           obtain ⟨ad505, e505, hx505_0⟩ := Kd.at_int HR504_0.out x16_2 p505 q505
           cases e505
           replace p505 := eq_true p505
           replace q505 := eq_true q505
           go_wp2_with (first | ((with_reducible refine qA5 (f := 91) rfl ?_); refine goesL_ (some 22) rfl rfl Tryd.func91 (by kernel_rfl) rfl #[.int .u64 x3_2, .int .u8 (rd (rd_L7 l0 x10_1) x16_2)] rfl (by (try simp only [List.map_toArray, List.map_cons, List.map_nil]); first | done | rfl | (simp only [List.length_drop, List.length_take]; rfl)) ?_; (with_reducible refine (sum_Next.calls x3_2 (rd (rd_L7 l0 x10_1) x16_2) t506 _ A8.out).mono ?_); rintro e w' ⟨rfl, ⟨nd, rfl⟩⟩; refine ⟨_, rfl, ?_⟩))
           go_roundg k2
           case measure => have := HK1.out; have := HK2.out; omega
           case rel => exact ⟨(t506), (wrap64 (x16_2 + 1)), (by first | rfl | (simp; done) | (simp [*]; done) | exact congrArg Value.bool (nil_ne _) | exact congrArg Value.bool (nil_eq _) | exact congrArg Value.bool (nil_ne' _)), (by first | rfl | (simp; done) | (simp [*]; done) | exact congrArg Value.bool (nil_ne _) | exact congrArg Value.bool (nil_eq _) | exact congrArg Value.bool (nil_ne' _)), H', ⟨by have := HK1.out; have := HK2.out; omega⟩, by repeat (first | exact Drawn0.refl _ | apply Drawn0.step)⟩
          ·rw [if_neg c7] at H
           exact absurd H (by simp)
         ·rw [if_neg c6] at H
          exact absurd H (by simp)
        ·rw [if_neg c5] at H
         have c5b0 : decide (x16_2 < ((rd_L7 l0 x10_1).length : Int)) = false := decide_eq_false c5
         clear c5
         have H' := Aside0.mk H
         clear H
         go_wp2
         go_roundg k2
         case measure => have := HK1.out; have := HK2.out; omega
         case rel => exact ⟨(x3_2), (wrap64 (x10_1 + 1)), (by first | rfl | (simp; done) | (simp [*]; done) | exact congrArg Value.bool (nil_ne _) | exact congrArg Value.bool (nil_eq _) | exact congrArg Value.bool (nil_ne' _)), (by first | rfl | (simp; done) | (simp [*]; done) | exact congrArg Value.bool (nil_ne _) | exact congrArg Value.bool (nil_eq _) | exact congrArg Value.bool (nil_ne' _)), H', ⟨by have := HK1.out; have := HK2.out; omega⟩, by repeat (first | exact Drawn0.refl _ | apply Drawn0.step)⟩
     ·rw [if_neg c4] at H
      exact absurd H (by simp)
    ·rw [if_neg c3] at H
     exact absurd H (by simp)
   ·rw [if_neg c2] at H
    have c2b0 : decide (x10_1 < (l0.length : Int)) = false := decide_eq_false c2
    clear c2
    obtain rfl := Option.some.inj H
    go_wp2
    go_ret
    exact ⟨by first | rfl | (simp; done) | (simp [*]; done), by repeat (first | exact Drawn0.refl _ | apply Drawn0.step)⟩
end Go.Proofs.YtbnoihpooeombaaDoor.P

namespace Go.Proofs.YtbnoihpooeombaaDoor.P
open Go.Proofs.YtbnoihpooeombaaDoor.X
open Go.RowKit Go.Proofs.YtbnoihpooeombaaDoorW.PrintWords Go.Proofs.YtbnoihpooeombaaDoorW.PrintLast Go.Proofs.YtbnoihpooeombaaDoorW.PrintMore
set_option linter.unusedVariables false
set_option linter.unusedSimpArgs false
def sum_Hex.f (a0 : Int) : Option (ByteArray) := (strconv_FormatUint.f a0 16).bind fun t502 => ((strings_Repeat.f (⟨#[48]⟩ : ByteArray) (wrap64 (16 - (t502.size : Int)))).bind fun t503 => (if t503.size + t502.size ≤ 9223372036854775807 then (some (t503 ++ t502)) else (none)))
set_option maxHeartbeats 8000000 in
set_option maxRecDepth 100000 in
theorem sum_Hex.calls (a0 : Int) (r : ByteArray) (w : World) (hT : Aside0 (Tabs w)) (h : sum_Hex.f a0 = some r) :
  Calls Tryd.prog 62 #[.int .u64 a0] w fun e w' => e = .returned (.string r) ∧ Below w.heap.size w w' := by
 have HB := Aside0.mk (Below.refl w.heap.size w)
 have H : ((strconv_FormatUint.f a0 16).bind fun t502 => ((strings_Repeat.f (⟨#[48]⟩ : ByteArray) (wrap64 (16 - (t502.size : Int)))).bind fun t503 => (if t503.size + t502.size ≤ 9223372036854775807 then (some (t503 ++ t502)) else (none)))) = some r := h
 clear h
 replace H := Option.bind_eq_some_iff.mp H
 obtain ⟨t502, A20, H⟩ := H
 replace H : ((strings_Repeat.f (⟨#[48]⟩ : ByteArray) (wrap64 (16 - (t502.size : Int)))).bind fun t503 => (if t503.size + t502.size ≤ 9223372036854775807 then (some (t503 ++ t502)) else (none))) = some r := H
 have A2 := Aside0.mk A20
 clear A20
 replace H := Option.bind_eq_some_iff.mp H
 obtain ⟨t503, A30, H⟩ := H
 replace H : (if t503.size + t502.size ≤ 9223372036854775807 then (some (t503 ++ t502)) else (none)) = some r := H
 have A3 := Aside0.mk A30
 clear A30
 by_cases c4 : t503.size + t502.size ≤ 9223372036854775807
 ·rw [if_pos c4] at H
  have c4b0 := eq_true c4
  have c4b1 : decide (t503.size + t502.size ≤ 9223372036854775807) = true := decide_eq_true c4
  try have c4b2 : (9223372036854775807 < t503.size + t502.size) = False := eq_false (Nat.not_lt.2 c4)
  have Sc4 := Aside0.mk c4
  clear c4
  obtain rfl := Option.some.inj H
  go_enter Tryd.func62, Tryd.ntmps62
  go_wp2_with (first | ((with_reducible refine qA5 (f := 89) rfl ?_); refine goesL_ (some 5) rfl rfl Tryd.func89 (by kernel_rfl) rfl #[.int .u64 a0, .int .i64 16] rfl (by (try simp only [List.map_toArray, List.map_cons, List.map_nil]); first | done | rfl | (simp only [List.length_drop, List.length_take]; rfl)) ?_; (with_reducible refine (strconv_FormatUint.calls a0 16 t502 _ ?side1 A2.out).mono ?_); (case side1 => exact ⟨Tabs.below hT.out (by repeat (first | (with_reducible first | exact HB.out | apply qAb | apply qAa | apply qAc) | exact HB.out))⟩); rintro e w5 ⟨rfl, hb⟩; refine ⟨_, rfl, ?_⟩; have n0_ := Aside0.mk (qAd (by repeat (first | (with_reducible first | exact HB.out | apply qAb | apply qAa | apply qAc) | exact HB.out)) hb); clear HB; have HB := n0_; clear n0_; (try clear hb); (try clear hb2); (try clear hk); (try clear hi)) | ((with_reducible refine qA5 (f := 90) rfl ?_); refine goesL_ (some 9) rfl rfl Tryd.func90 (by kernel_rfl) rfl #[.string (⟨#[48]⟩ : ByteArray), .int .i64 (wrap64 (16 - (t502.size : Int)))] rfl (by (try simp only [List.map_toArray, List.map_cons, List.map_nil]); first | done | rfl | (simp only [List.length_drop, List.length_take]; rfl)) ?_; (with_reducible refine (strings_Repeat.calls (⟨#[48]⟩ : ByteArray) (wrap64 (16 - (t502.size : Int))) t503 _ A3.out).mono ?_); rintro e w6 ⟨rfl, hb⟩; refine ⟨_, rfl, ?_⟩; have n0_ := Aside0.mk (qAd (by repeat (first | (with_reducible first | exact HB.out | apply qAb | apply qAa | apply qAc) | exact HB.out)) hb); clear HB; have HB := n0_; clear n0_; (try clear hb); (try clear hb2); (try clear hk); (try clear hi)))
  try any_goals (exfalso; have h_ := Sc4.out; rename_i hb_; (try simp only [ByteArray.size_extract, ByteArray.size_append] at h_ hb_); (try simp only [ByteArray.size, List.size_toArray, List.length_cons, List.length_nil] at h_ hb_); omega)
  go_ret
  exact ⟨by first | rfl | (simp [qA0, qAz] <;> rfl) | (simp [*, qA0, qAz] <;> rfl), by repeat (first | (with_reducible first | exact HB.out | apply qAb | apply qAa | apply qAc) | exact HB.out)⟩
 ·rw [if_neg c4] at H
  exact absurd H (by simp)
end Go.Proofs.YtbnoihpooeombaaDoor.P

namespace Go.Proofs.YtbnoihpooeombaaDoor.P
open Go.Proofs.YtbnoihpooeombaaDoor.X
open Go.RowKit Go.Proofs.YtbnoihpooeombaaDoorW.PrintWords Go.Proofs.YtbnoihpooeombaaDoorW.PrintLast Go.Proofs.YtbnoihpooeombaaDoorW.PrintMore
set_option linter.unusedVariables false
set_option linter.unusedSimpArgs false
def hogsheadref6_Next.f (a0 : Int) (a1 : Int) : Option (Int) := some (IntKind.u64.wrap ((Go.bits .xor .u64 a0 (IntKind.u64.wrap (a1))) * 1099511628211))
set_option maxHeartbeats 8000000 in
set_option maxRecDepth 100000 in
theorem hogsheadref6_Next.calls (a0 : Int) (a1 : Int) (r : Int) (w : World) (h : hogsheadref6_Next.f a0 a1 = some r) :
  Calls Tryd.prog 103 #[.int .u64 a0, .int .u8 a1] w fun e w' => e = .returned (.int .u64 r) ∧ Drawn0 w w' := by
 have H : (some (IntKind.u64.wrap ((Go.bits .xor .u64 a0 (IntKind.u64.wrap (a1))) * 1099511628211))) = some r := h
 clear h
 obtain rfl := Option.some.inj H
 go_enter Tryd.func103, Tryd.ntmps103
 go_wp2
 go_ret
 exact ⟨by first | rfl | (simp; done) | (simp [*]; done), by repeat (first | exact Drawn0.refl _ | apply Drawn0.step)⟩
end Go.Proofs.YtbnoihpooeombaaDoor.P

namespace Go.Proofs.YtbnoihpooeombaaDoor.P
open Go.Proofs.YtbnoihpooeombaaDoor.X
open Go.RowKit Go.Proofs.YtbnoihpooeombaaDoorW.PrintWords Go.Proofs.YtbnoihpooeombaaDoorW.PrintLast Go.Proofs.YtbnoihpooeombaaDoorW.PrintMore
set_option linter.unusedVariables false
set_option linter.unusedSimpArgs false
def hogsheadref6_Of.l0 : Nat → List Int → Int → Int → Option (Int)
 | 0, _, _, _ => none
 | k + 1, x0, x3, x4 => if x4 < (x0.length : Int) then (if 0 ≤ x4 then ((hogsheadref6_Next.f x3 (rd x0 x4)).bind fun t528 => (hogsheadref6_Of.l0 k x0 t528 (wrap64 (x4 + 1)))) else (none)) else (some x3)
def hogsheadref6_Of.f (k : Nat) (l0 : List Int) : Option (Int) := hogsheadref6_Of.l0 k l0 14695981039346656037 0
set_option maxHeartbeats 8000000 in
set_option maxRecDepth 100000 in
theorem hogsheadref6_Of.calls (k : Nat) (A0 : Option Addr) (c0 : Nat) (l0 : List Int) (r : Int) (w : World) (hr0 : Kd.C (Kd.int .u8) w A0 l0.length l0) (hc0 : l0.length ≤ c0) (h : hogsheadref6_Of.f k l0 = some r) :
  Calls Tryd.prog 88 #[.slice A0 l0.length c0] w fun e w' => e = .returned (.int .u64 r) ∧ Drawn0 w w' := by
 have HR0 := Aside0.mk hr0
 have HC0 := Aside0.mk hc0
 clear hr0 hc0
 have H : (hogsheadref6_Of.l0 k l0 14695981039346656037 0) = some r := h
 clear h
 have H' := Aside0.mk H
 clear H
 go_enter Tryd.func88, Tryd.ntmps88
 go_wp2
 go_loopg [3, 4] k (fun kq v3 v4 w' => ∃ (x3_1 : Int) (x4_1 : Int), v3 = .int .u64 x3_1 ∧ v4 = .int .i64 x4_1 ∧ Aside0 (hogsheadref6_Of.l0 kq l0 x3_1 x4_1 = some r) ∧ Aside0 (kq ≤ k) ∧ Drawn0 w w')
 case atStart => exact ⟨(14695981039346656037), (0), (by first | rfl | (simp; done) | (simp [*]; done) | exact congrArg Value.bool (nil_ne _) | exact congrArg Value.bool (nil_eq _) | exact congrArg Value.bool (nil_ne' _)), (by first | rfl | (simp; done) | (simp [*]; done) | exact congrArg Value.bool (nil_ne _) | exact congrArg Value.bool (nil_eq _) | exact congrArg Value.bool (nil_ne' _)), H', ⟨Nat.le_refl _⟩, by repeat (first | exact Drawn0.refl _ | apply Drawn0.step)⟩
 case round =>
  clear H'
  obtain ⟨x3_1, x4_1, rfl, rfl, HA, HK1, ⟨m1, rfl⟩⟩ := hrel
  cases gk with
  | zero => exact absurd HA.out (by simp [hogsheadref6_Of.l0])
  | succ k1 =>
   have H := HA.out
   clear HA
   simp only [hogsheadref6_Of.l0] at H
   by_cases c2 : x4_1 < (l0.length : Int)
   ·rw [if_pos c2] at H
    have c2b0 : decide (x4_1 < (l0.length : Int)) = true := decide_eq_true c2
    clear c2
    by_cases c3 : 0 ≤ x4_1
    ·rw [if_pos c3] at H
     have c3b0 : decide (0 ≤ x4_1) = true := decide_eq_true c3
     clear c3
     replace H := Option.bind_eq_some_iff.mp H
     obtain ⟨t528, A40, H⟩ := H
     replace H : (hogsheadref6_Of.l0 k1 l0 t528 (wrap64 (x4_1 + 1))) = some r := H
     have A4 := Aside0.mk A40
     clear A40
     have H' := Aside0.mk H
     clear H
     have p527 : 0 ≤ (x4_1 : Int) := of_decide_eq_true (by first | (with_reducible assumption) | assumption)
     have q527 : x4_1 < (l0.length : Int) := of_decide_eq_true (by first | (with_reducible assumption) | assumption)
     obtain ⟨ad527, e527, hx527_0⟩ := Kd.at_int HR0.out x4_1 p527 q527
     cases e527
     replace p527 := eq_true p527
     replace q527 := eq_true q527
     go_wp2_with (first | ((with_reducible refine qA5 (f := 103) rfl ?_); refine goesL_ (some 16) rfl rfl Tryd.func103 (by kernel_rfl) rfl #[.int .u64 x3_1, .int .u8 (rd l0 x4_1)] rfl (by (try simp only [List.map_toArray, List.map_cons, List.map_nil]); first | done | rfl | (simp only [List.length_drop, List.length_take]; rfl)) ?_; (with_reducible refine (hogsheadref6_Next.calls x3_1 (rd l0 x4_1) t528 _ A4.out).mono ?_); rintro e w' ⟨rfl, ⟨nd, rfl⟩⟩; refine ⟨_, rfl, ?_⟩))
     go_roundg k1
     case measure => have := HK1.out; omega
     case rel => exact ⟨(t528), (wrap64 (x4_1 + 1)), (by first | rfl | (simp; done) | (simp [*]; done) | exact congrArg Value.bool (nil_ne _) | exact congrArg Value.bool (nil_eq _) | exact congrArg Value.bool (nil_ne' _)), (by first | rfl | (simp; done) | (simp [*]; done) | exact congrArg Value.bool (nil_ne _) | exact congrArg Value.bool (nil_eq _) | exact congrArg Value.bool (nil_ne' _)), H', ⟨by have := HK1.out; omega⟩, by repeat (first | exact Drawn0.refl _ | apply Drawn0.step)⟩
    ·rw [if_neg c3] at H
     exact absurd H (by simp)
   ·rw [if_neg c2] at H
    have c2b0 : decide (x4_1 < (l0.length : Int)) = false := decide_eq_false c2
    clear c2
    obtain rfl := Option.some.inj H
    go_wp2
    go_ret
    exact ⟨by first | rfl | (simp; done) | (simp [*]; done), by repeat (first | exact Drawn0.refl _ | apply Drawn0.step)⟩
end Go.Proofs.YtbnoihpooeombaaDoor.P

namespace Go.Proofs.YtbnoihpooeombaaDoor.P
open Go.Proofs.YtbnoihpooeombaaDoor.X
open Go.RowKit Go.Proofs.YtbnoihpooeombaaDoorW.PrintWords Go.Proofs.YtbnoihpooeombaaDoorW.PrintLast Go.Proofs.YtbnoihpooeombaaDoorW.PrintMore
set_option linter.unusedVariables false
set_option linter.unusedSimpArgs false
def hogsheadref6_Hex.l0 : Nat → Int → List Int → Int → Option (ByteArray)
 | 0, _, _, _ => none
 | k + 1, x0, x3, x4 => if x4 ≥ 0 then (if 0 ≤ (wrap64 (4 * x4)) then (if 0 ≤ (Go.bits .and .u64 (shr .u64 x0 (wrap64 (4 * x4))) 15) then (if (Go.bits .and .u64 (shr .u64 x0 (wrap64 (4 * x4))) 15) < 16 then (if x3.length < 140737488355328 then (hogsheadref6_Hex.l0 k x0 (x3 ++ [bt (⟨#[48, 49, 50, 51, 52, 53, 54, 55, 56, 57, 97, 98, 99, 100, 101, 102]⟩ : ByteArray) (Go.bits .and .u64 (shr .u64 x0 (wrap64 (4 * x4))) 15)]) (wrap64 (x4 - 1))) else (none)) else (none)) else (none)) else (none)) else (some (strOfNums x3))
def hogsheadref6_Hex.f (k : Nat) (a0 : Int) : Option (ByteArray) := hogsheadref6_Hex.l0 k a0 ([] : List Int) 15
set_option maxHeartbeats 8000000 in
set_option maxRecDepth 100000 in
theorem hogsheadref6_Hex.calls (k : Nat) (a0 : Int) (r : ByteArray) (w : World) (h : hogsheadref6_Hex.f k a0 = some r) :
  Calls Tryd.prog 87 #[.int .u64 a0] w fun e w' => e = .returned (.string r) ∧ Below w.heap.size w w' := by
 have HB := Aside0.mk (Below.refl w.heap.size w)
 have H : (hogsheadref6_Hex.l0 k a0 ([] : List Int) 15) = some r := h
 clear h
 have H' := Aside0.mk H
 clear H
 go_enter Tryd.func87, Tryd.ntmps87
 go_wp2
 go_loopg [3, 4] k (fun kq v3 v4 w' => ∃ (x3_1 : List Int) (x4_1 : Int), v4 = .int .i64 x4_1 ∧ Aside0 (hogsheadref6_Hex.l0 kq a0 x3_1 x4_1 = some r) ∧ Aside0 (kq ≤ k) ∧ Aside0 (Kd.R (Kd.int .u8) 5 w' w.heap.size (fun _ => True) v3 x3_1) ∧ Aside0 (Below w.heap.size w w'))
 case atStart => exact ⟨(([] : List Int)), (15), (by first | rfl | (simp; done) | (simp [*]; done) | exact congrArg Value.bool (nil_ne _) | exact congrArg Value.bool (nil_eq _) | exact congrArg Value.bool (nil_ne' _)), H', ⟨Nat.le_refl _⟩, ⟨by first | exact Kd.R_nil _ _ _ _ _ | exact Kd.N_nil _ _ _ _ _ | exact Kd.V_nil _ _ _ _ _ | exact Kd.Q_nil _ _ _ _ _ | exact Kd.S_nil _ _ _ _ _⟩, ⟨by repeat (first | (with_reducible first | exact HB.out | apply qAb | apply qAa | apply qAc) | exact HB.out)⟩⟩
 case round =>
  clear H'
  obtain ⟨x3_1, x4_1, rfl, HA, HK1, HO_3, HB⟩ := hrel
  cases gk with
  | zero => exact absurd HA.out (by simp [hogsheadref6_Hex.l0])
  | succ k1 =>
   have H := HA.out
   clear HA
   simp only [hogsheadref6_Hex.l0] at H
   by_cases c2 : x4_1 ≥ 0
   ·rw [if_pos c2] at H
    have c2b0 : decide (0 ≤ x4_1) = true := decide_eq_true c2
    clear c2
    obtain ⟨ji3, hji3⟩ : ∃ j_ : Int, (wrap64 (4 * x4_1)) = j_ := ⟨_, rfl⟩
    replace H : (if 0 ≤ (ji3) then (if 0 ≤ (Go.bits .and .u64 (shr .u64 a0 (ji3)) 15) then (if (Go.bits .and .u64 (shr .u64 a0 (ji3)) 15) < 16 then (if x3_1.length < 140737488355328 then (hogsheadref6_Hex.l0 k1 a0 (x3_1 ++ [bt (⟨#[48, 49, 50, 51, 52, 53, 54, 55, 56, 57, 97, 98, 99, 100, 101, 102]⟩ : ByteArray) (Go.bits .and .u64 (shr .u64 a0 (ji3)) 15)]) (wrap64 (x4_1 - 1))) else (none)) else (none)) else (none)) else (none)) = some r := by first | (rw [hji3] at H; exact H) | (simp only [hji3] at H ⊢; exact H)
    have hji3w : (IntKind.i64.wrap (4 * x4_1)) = ji3 := (i64_w _).trans hji3
    by_cases c4 : 0 ≤ (ji3)
    ·rw [if_pos c4] at H
     have c4b0 := eq_true c4
     have c4b1 : decide (0 ≤ (ji3)) = true := decide_eq_true c4
     clear c4
     obtain ⟨ji5, hji5⟩ : ∃ j_ : Int, (shr .u64 a0 (ji3)) = j_ := ⟨_, rfl⟩
     replace H : (if 0 ≤ (Go.bits .and .u64 (ji5) 15) then (if (Go.bits .and .u64 (ji5) 15) < 16 then (if x3_1.length < 140737488355328 then (hogsheadref6_Hex.l0 k1 a0 (x3_1 ++ [bt (⟨#[48, 49, 50, 51, 52, 53, 54, 55, 56, 57, 97, 98, 99, 100, 101, 102]⟩ : ByteArray) (Go.bits .and .u64 (ji5) 15)]) (wrap64 (x4_1 - 1))) else (none)) else (none)) else (none)) = some r := by first | (rw [hji5] at H; exact H) | (simp only [hji5] at H ⊢; exact H)
     have hji5_ : (a0 / 2 ^ min (ji3).toNat 64) = ji5 := hji5
     have hji5z : (ji3) ≤ 64 → (a0 / 2 ^ (ji3).toNat) = ji5 := qD8 hji5
     by_cases c6 : 0 ≤ (Go.bits .and .u64 (ji5) 15)
     ·rw [if_pos c6] at H
      have c6b0 : decide (0 ≤ (Go.bits .and .u64 (ji5) 15)) = true := decide_eq_true c6
      clear c6
      by_cases c7 : (Go.bits .and .u64 (ji5) 15) < 16
      ·rw [if_pos c7] at H
       have c7b0 : decide ((Go.bits .and .u64 (ji5) 15) < 16) = true := decide_eq_true c7
       clear c7
       by_cases c9 : x3_1.length < 140737488355328
       ·rw [if_pos c9] at H
        have LMc9 := Aside0.mk c9
        clear c9
        obtain ⟨y524, hy524⟩ : ∃ y_ : List Int, y_ = (x3_1 ++ [bt (⟨#[48, 49, 50, 51, 52, 53, 54, 55, 56, 57, 97, 98, 99, 100, 101, 102]⟩ : ByteArray) (Go.bits .and .u64 (ji5) 15)]) := ⟨_, rfl⟩
        replace H : (hogsheadref6_Hex.l0 k1 a0 y524 (wrap64 (x4_1 - 1))) = some r := by first | (rw [hy524]; with_reducible exact H) | (have H2_ := (Option.bind_some _ _).symm.trans H; rw [hy524]; with_reducible exact H2_) | (have H2_ := (Option.bind_some _ _).symm.trans H; with_reducible exact H2_) | with_reducible exact H | (rw [hy524]; exact H) | exact H
        have Ny524 := Aside0.mk hy524
        clear hy524
        have H' := Aside0.mk H
        clear H
        have p8 : 0 ≤ ((Go.bits .and .u64 (ji5) 15) : Int) := of_decide_eq_true (by first | (with_reducible assumption) | assumption)
        have q8 : (Go.bits .and .u64 (ji5) 15) < (16 : Int) := of_decide_eq_true (by first | (with_reducible assumption) | assumption)
        have hx8 := bt_at (⟨#[48, 49, 50, 51, 52, 53, 54, 55, 56, 57, 97, 98, 99, 100, 101, 102]⟩ : ByteArray) (Go.bits .and .u64 (ji5) 15)
        replace p8 := eq_true p8
        replace q8 := eq_true q8
        go_wp2_with (first | ((with_reducible refine qB2 (b := .append) (xs := #[.tmp 9, .tmp 16]) rfl ?_); at_builtin; refine Kd.R_append (Kd.int .u8) (w0 := w) w.heap.size rfl (.tmp 9) (.tmp 16) 78 5 (.int .u8 0) 1 rfl Tryd.underlying78 info5 rfl (by decide) (by omega) u3 x3_1 (bt (⟨#[48, 49, 50, 51, 52, 53, 54, 55, 56, 57, 97, 98, 99, 100, 101, 102]⟩ : ByteArray) (Go.bits .and .u64 (ji5) 15)) [.int .u8 (bt (⟨#[48, 49, 50, 51, 52, 53, 54, 55, 56, 57, 97, 98, 99, 100, 101, 102]⟩ : ByteArray) (Go.bits .and .u64 (ji5) 15))] (fun _ => True) (fun _ => False) rfl rfl ?aP (fun _ hk => hk.elim) ?aF ?aO ?aB ?aS ?aL ?_; (case aP => exact rfl); (case aB => exact (by repeat (first | (with_reducible first | exact HB.out | apply qAb | apply qAa | apply qAc) | exact HB.out))); (case aF => exact (fun _ _ => trivial)); (case aO => exact (by (with_reducible repeat (first | apply Kd.R_alloc | apply Kd.R_drewN | apply Kd.R_drew)); exact HO_3.out)); (case aS => exact (qAg (by repeat (first | (with_reducible first | exact HB.out | apply qAb | apply qAa | apply qAc) | exact HB.out)))); (case aL => have := LMc9.out; omega); intro v525 w10 ho hb hg hat; rw [← Ny524.out] at ho; have n0_ := Aside0.mk (hb); have n1_ := Aside0.mk (ho); clear HB; clear HO_3; have HB := n0_; have HO526 := n1_; clear n0_ n1_; clear ho hb hg hat))
        go_roundg k1
        case measure => have := HK1.out; omega
        case rel => exact ⟨(y524), (wrap64 (x4_1 - 1)), (by first | rfl | (simp; done) | (simp [*]; done) | exact congrArg Value.bool (nil_ne _) | exact congrArg Value.bool (nil_eq _) | exact congrArg Value.bool (nil_ne' _)), H', ⟨by have := HK1.out; omega⟩, ⟨by (with_reducible repeat (first | apply Kd.R_alloc | apply Kd.R_drewN | apply Kd.R_drew)); exact HO526.out⟩, ⟨by repeat (first | (with_reducible first | exact HB.out | apply qAb | apply qAa | apply qAc) | exact HB.out)⟩⟩
       ·rw [if_neg c9] at H
        exact absurd H (by simp)
      ·rw [if_neg c7] at H
       exact absurd H (by simp)
     ·rw [if_neg c6] at H
      exact absurd H (by simp)
    ·rw [if_neg c4] at H
     exact absurd H (by simp)
   ·rw [if_neg c2] at H
    have c2b0 : decide (0 ≤ x4_1) = false := decide_eq_false c2
    clear c2
    obtain rfl := Option.some.inj H
    have hcv11 := qD1 (P := Tryd.prog) Tryd.underlying78 Tryd.underlying5 Tryd.underlying9 (Kd.own_of_R HO_3.out)
    go_wp2
    go_ret
    exact ⟨by first | rfl | (simp [qA0, qAz] <;> rfl) | (simp [*, qA0, qAz] <;> rfl), by repeat (first | (with_reducible first | exact HB.out | apply qAb | apply qAa | apply qAc) | exact HB.out)⟩
end Go.Proofs.YtbnoihpooeombaaDoor.P

namespace Go.Proofs.YtbnoihpooeombaaDoor.X
open Go.RowKit Go.Proofs.YtbnoihpooeombaaDoorW.PrintWords Go.Proofs.YtbnoihpooeombaaDoor.P
set_option linter.unusedVariables false
set_option linter.unusedSimpArgs false
theorem qEk (w : World) (e : TypeId) (s : ByteArray) (hs : s.size ≤ 9223372036854775807) : (Kd.int .u8).C (Lib.bytesWorld w e s) (some ⟨w.heap.size, 0, none⟩) s.size (qAm s) := by
  refine Kd.C_of_reads (d := (0 : Int)) (h1 := fun _ => rfl) ⟨qAl s, hs, fun _ => ⟨_, rfl, fun j hj => ?_⟩⟩
  have ha : (⟨w.heap.size, 0, none⟩ : Addr).add j = ⟨w.heap.size, j, none⟩ := qAx _ _
  rw [ha, Lib.bytesWorld_cell w e s j hj]
  congr 2
  unfold qAm
  simp only [List.getD_eq_getElem?_getD, List.getElem?_map]
  have hl : j < s.data.toList.length := by rw [qCg]; exact hj
  rw [List.getElem?_eq_getElem hl]
  rfl
theorem qCh (w : World) (e : TypeId) (s : ByteArray) : Below w.heap.size w (Lib.bytesWorld w e s) :=
  ⟨rfl, rfl, rfl, by rw [Lib.bytesWorld_size]; omega, fun i hi => Lib.bytesWorld_at_old w e s i hi⟩
theorem one_C {W : World} {A : Option Addr} {c e t : Nat} {xs : List Int} (h : (Kd.int .u8).C W A xs.length xs) (hc : xs.length ≤ c) :
    (Kd.slice e (Kd.int .u8)).C (W.alloc (.cells #[.slice A xs.length c] t)) (some ⟨W.heap.size, 0, none⟩) [xs].length [xs] := by
  refine ⟨rfl, by simp, fun _ => ⟨_, rfl, fun j p hj => ?_⟩⟩
  cases j with
  | succ j => simp at hj
  | zero =>
    obtain rfl : xs = p := by simpa using hj
    refine ⟨[.slice A xs.length c], rfl, ⟨A, c, rfl, hc, Kd.C_below h ((Below.refl _ _).alloc (Nat.le_refl _) _)⟩, fun i u hu => ?_⟩
    cases i with
    | succ i => simp at hu
    | zero =>
      obtain rfl : Value.slice A xs.length c = u := by simpa using hu
      simp [Addr.add, World.cell?, World.alloc, -World.alloc_eq]
def sum_Digest.f (k : Nat) (a0 : ByteArray) : Option ByteArray := if a0.size ≤ 9223372036854775807 then (sum_Of.f k [qAm a0]).bind fun t => sum_Hex.f t else none
set_option maxHeartbeats 1600000 in
set_option maxRecDepth 100000 in
theorem sum_Digest.calls (k : Nat) (a0 : ByteArray) (r : ByteArray) (w : World) (hT : Aside0 (Tabs w)) (h : sum_Digest.f k a0 = some r) :
    Calls Tryd.prog 43 #[.string a0] w fun e w' => e = .returned (.string r) ∧ Below w.heap.size w w' := by
  unfold sum_Digest.f at h
  split at h
  · rename_i hs
    replace h := Option.bind_eq_some_iff.mp h
    obtain ⟨t, h1, h2⟩ := h
    have H1 := Aside0.mk h1
    have H2 := Aside0.mk h2
    have HS := Aside0.mk hs
    clear h1 h2 hs
    have hcv := Lib.run_convert_string_bytes (P := Tryd.prog) w 9 78 5 a0 Tryd.underlying9 Tryd.underlying78 Tryd.underlying5
    have HB := Aside0.mk (qCh w 5 a0)
    have HC := Aside0.mk (qEk w 5 a0 HS.out)
    have HG := Aside0.mk (grownCap_ge w a0.size 0 5)
    go_enter Tryd.func43, Tryd.ntmps43
    go_wp2_with fail
    generalize Lib.bytesWorld w 5 a0 = W1 at *
    clear hcv
    have hl := qAl a0
    generalize grownCap w a0.size 0 5 = cp at *
    rw [← hl] at HC HG ⊢
    have HL := Aside0.mk hl
    clear hl
    have HC2 := Aside0.mk (one_C (e := 5) (t := 78) HC.out HG.out)
    refine (sum_Of.calls k _ 1 [qAm a0] t _ HC2.out (Nat.le_refl _) H1.out).mono ?_
    rintro e w2 ⟨rfl, ⟨n2, rfl⟩⟩
    have HB2 := Aside0.mk (qAa (qAb HB.out (.cells #[.slice (some ⟨w.heap.size, 0, none⟩) (qAm a0).length cp] 78)) n2)
    go_wp2_with fail
    refine (sum_Hex.calls t r _ ⟨Tabs.below hT.out HB2.out⟩ H2.out).mono ?_
    rintro e w3 ⟨rfl, hb3⟩
    have HB3 := Aside0.mk (qAd HB2.out hb3)
    clear hb3
    go_wp2
    go_ret
    exact ⟨rfl, HB3.out⟩
  · cases h
def hogsheadref6_Digest.f (k : Nat) (a0 : ByteArray) : Option ByteArray := if a0.size ≤ 9223372036854775807 then (hogsheadref6_Of.f k (qAm a0)).bind fun t => hogsheadref6_Hex.f k t else none
set_option maxHeartbeats 1600000 in
set_option maxRecDepth 100000 in
theorem hogsheadref6_Digest.calls (k : Nat) (a0 : ByteArray) (r : ByteArray) (w : World) (h : hogsheadref6_Digest.f k a0 = some r) :
    Calls Tryd.prog 60 #[.string a0] w fun e w' => e = .returned (.string r) ∧ Below w.heap.size w w' := by
  unfold hogsheadref6_Digest.f at h
  split at h
  · rename_i hs
    replace h := Option.bind_eq_some_iff.mp h
    obtain ⟨t, h1, h2⟩ := h
    have H1 := Aside0.mk h1
    have H2 := Aside0.mk h2
    have HS := Aside0.mk hs
    clear h1 h2 hs
    have hcv := Lib.run_convert_string_bytes (P := Tryd.prog) w 9 78 5 a0 Tryd.underlying9 Tryd.underlying78 Tryd.underlying5
    have HB := Aside0.mk (qCh w 5 a0)
    have HC := Aside0.mk (qEk w 5 a0 HS.out)
    have HG := Aside0.mk (grownCap_ge w a0.size 0 5)
    go_enter Tryd.func60, Tryd.ntmps60
    go_wp2_with fail
    generalize Lib.bytesWorld w 5 a0 = W1 at *
    clear hcv
    have hl := qAl a0
    generalize grownCap w a0.size 0 5 = cp at *
    rw [← hl] at HC HG ⊢
    have HL := Aside0.mk hl
    clear hl
    refine (hogsheadref6_Of.calls k _ _ (qAm a0) t _ HC.out HG.out H1.out).mono ?_
    rintro e w2 ⟨rfl, ⟨n2, rfl⟩⟩
    have HB2 := Aside0.mk (qAa HB.out n2)
    go_wp2_with fail
    refine (hogsheadref6_Hex.calls k t r _ H2.out).mono ?_
    rintro e w3 ⟨rfl, hb3⟩
    have HB3 := Aside0.mk (qAd HB2.out hb3)
    clear hb3
    go_wp2
    go_ret
    exact ⟨rfl, HB3.out⟩
  · cases h
end Go.Proofs.YtbnoihpooeombaaDoor.X

namespace Go.Proofs.YtbnoihpooeombaaDoor.X
open Go.RowKit Go.Proofs.YtbnoihpooeombaaDoorW.PrintWords Go.Proofs.YtbnoihpooeombaaDoorW.PrintLast Go.Proofs.YtbnoihpooeombaaDoorW.PrintMore Go.Proofs.YtbnoihpooeombaaDoor.P
set_option linter.unusedVariables false
set_option linter.unusedSimpArgs false
def cellsB : List S68 → List Value
  | [] => []
  | x :: l => .string x.f0 :: .string x.f1 :: cellsB l
theorem qBv : ∀ l, (cellsB l).length = l.length * 2
  | [] => rfl
  | x :: l => by rw [cellsB, List.length_cons, List.length_cons, qBv l, List.length_cons]; omega
theorem qBw : ∀ l m, cellsB (l ++ m) = cellsB l ++ cellsB m
  | [], m => rfl
  | x :: l, m => by rw [List.cons_append, cellsB, cellsB, qBw l m]; rfl
theorem qBi : ∀ (l : List S68) (i : Nat), (cellsB l).take (i * 2) = cellsB (l.take i)
  | [], i => by simp [cellsB]
  | x :: l, 0 => by simp [cellsB]
  | x :: l, i + 1 => by rw [show (i + 1) * 2 = i * 2 + 1 + 1 by omega, cellsB, List.take_succ_cons, List.take_succ_cons, List.take_succ_cons, cellsB, qBi l i]
theorem qBj : ∀ (l : List S68) (i : Nat), (cellsB l).drop (i * 2) = cellsB (l.drop i)
  | [], i => by simp [cellsB]
  | x :: l, 0 => by simp [cellsB]
  | x :: l, i + 1 => by rw [show (i + 1) * 2 = i * 2 + 1 + 1 by omega, cellsB, List.drop_succ_cons, List.drop_succ_cons, List.drop_succ_cons, qBj l i]
theorem qA1 : ∀ (l : List S68), ∀ u ∈ cellsB l, u.oneCell' = true
  | [], u, h => by cases h
  | x :: l, u, h => by
    rw [cellsB, List.mem_cons, List.mem_cons] at h
    rcases h with rfl | rfl | h
    · rfl
    · rfl
    · exact qA1 l u h
theorem qA6 (w : World) : ∀ l, Reps (k68.K w) 2 l (cellsB l)
  | [] => Reps.none _ _
  | x :: l => by
    have h := qB5 (Reps.snoc (Reps.none (k68.K w) 2) (k68_mk w x) rfl) (qA6 w l)
    exact h
structure qAf (w : World) (t base sb : Nat) (v : Value) (L : List S68) : Prop where
  cell : w.heap[sb]? = some (.cells #[v] t (0, 0))
  row : w.ownsRow base 68 2 v L.length (cellsB L)
theorem qAf.reads {w : World} {t base sb : Nat} {v : Value} {L : List S68} (h : qAf w t base sb v L) : ∃ A c, v = .slice A L.length c ∧ L.length ≤ c ∧ k68.C w A L.length L := by
  obtain ⟨A, c, rfl, hC⟩ := qAs h.row (qA6 w L) rfl
  exact ⟨A, c, rfl, qCt h.row, hC⟩
theorem qAf.keep {w w1 : World} {t base sb : Nat} {v : Value} {L : List S68} (h : qAf w t base sb v L) (h1 : w1.heap[sb]? = w.heap[sb]?) (h2 : ∀ k, v.ownBlock = some k → w1.heap[k]? = w.heap[k]?) : qAf w1 t base sb v L :=
  ⟨h1.trans h.cell, qBo h.row h2⟩
theorem qAf.below {w w1 : World} {t base sb : Nat} {v : Value} {L : List S68} (h : qAf w t base sb v L) (hb : Below w.heap.size w w1) : qAf w1 t base sb v L :=
  h.keep (hb.block _ (blk_lt h.cell)) (fun k hk => hb.block _ (own_lt h.row k hk))
set_option maxHeartbeats 4000000 in
theorem qCp (base sb : Nat) (v : Value) (L : List S68) (d : ByteArray) (w : World) (h : qAf w 91 base sb v L) (hs : qAh (dgs L) = true) (hn : L.length ≤ 1000000) :
    Calls Tryd.prog 58 #[.pointer (some ⟨sb, 0, none⟩), .string d] w fun e w' => e = .returned (.tuple #[.int .i64 (posK (dgs L) d : Nat), .bool (isK (dgs L) d)]) ∧ Below w.heap.size w w' := by
  obtain ⟨A, c, rfl, hc, hC⟩ := h.reads
  have HC := Aside0.mk hC
  have HS := Aside0.mk hs
  have hc0 := cell_of_one h.cell
  clear hC hs h
  go_enter Tryd.func58, Tryd.ntmps58
  go_wp2_with fail
  refine (qCq A c L d w HC.out hc HS.out hn).mono ?_
  rintro e w1 ⟨rfl, hb⟩
  have HB := Aside0.mk hb
  clear hb
  go_wp2_with fail
  go_ret2
  exact ⟨rfl, HB.out⟩
end Go.Proofs.YtbnoihpooeombaaDoor.X

namespace Go.Proofs.YtbnoihpooeombaaDoor.X
open Go.RowKit Go.Proofs.YtbnoihpooeombaaDoorW.PrintWords Go.Proofs.YtbnoihpooeombaaDoorW.PrintLast Go.Proofs.YtbnoihpooeombaaDoorW.PrintMore Go.Proofs.YtbnoihpooeombaaDoor.P
set_option linter.unusedVariables false
set_option linter.unusedSimpArgs false
structure StepB (w w' : World) (sb : Nat) (r : Option Nat) : Prop where
  os : w'.os = w.os
  tape : w'.tape = w.tape
  output : w'.output = w.output
  size : w.heap.size ≤ w'.heap.size
  block : ∀ k, k < w.heap.size → k ≠ sb → some k ≠ r → w'.heap[k]? = w.heap[k]?
theorem StepB.of_below {w w' : World} {sb : Nat} {r : Option Nat} (h : Below w.heap.size w w') : StepB w w' sb r := ⟨h.os, h.tape, h.output, h.size, fun k hk _ _ => h.block k hk⟩
theorem StepB.of_grown {w w' : World} {sb : Nat} {r : Option Nat} (h : w.grownBy w' r) : StepB w w' sb r := ⟨h.os, h.tape, h.output, h.size, fun k hk _ hr => h.block k hk hr⟩
theorem StepB.trans {w w1 w2 : World} {sb : Nat} {r r' : Option Nat} (h : StepB w w1 sb r) (g : StepB w1 w2 sb r') (hr : r' = r ∨ ∀ k, r' = some k → w.heap.size ≤ k) : StepB w w2 sb r :=
  ⟨g.os.trans h.os, g.tape.trans h.tape, g.output.trans h.output, Nat.le_trans h.size g.size, fun k hk hs hne => (g.block k (Nat.lt_of_lt_of_le hk h.size) hs (by
    rcases hr with rfl | hr
    · exact hne
    · intro e
      have := hr k e.symm
      omega)).trans (h.block k hk hs hne)⟩
theorem StepB.set {w w1 : World} {sb : Nat} {r : Option Nat} (h : StepB w w1 sb r) (v : Value) : StepB w (w1.setCell ⟨sb, 0, none⟩ v) sb r :=
  ⟨h.os, h.tape, h.output, by rw [qEr]; exact h.size, fun k hk hs hne => (Below.heap_setCell w1 ⟨sb, 0, none⟩ v k hs).trans (h.block k hk hs hne)⟩
def putL (L : List S68) (d data : ByteArray) : List S68 := if isK (dgs L) d = true then L else L.take (posK (dgs L) d) ++ ⟨d, data⟩ :: L.drop (posK (dgs L) d)
def putR (L : List S68) (d data : ByteArray) : ByteArray × Int := if isK (dgs L) d = true ∧ (rd_T68 L (posK (dgs L) d : Nat)).f1 ≠ data then (⟨#[]⟩, 9) else (d, 0)
set_option maxHeartbeats 8000000 in
set_option maxRecDepth 100000 in
theorem qBm (kD base sb : Nat) (v : Value) (L : List S68) (data d : ByteArray) (w : World) (hT : Aside0 (Tabs w)) (h : qAf w 91 base sb v L) (hs : qAh (dgs L) = true) (hn : L.length ≤ 100000) (hD : sum_Digest.f kD data = some d) (hbase : base ≤ w.heap.size) :
    Calls Tryd.prog 35 #[.pointer (some ⟨sb, 0, none⟩), .string data] w fun e w' => e = .returned (.tuple #[.string (putR L d data).1, .int .i64 (putR L d data).2]) ∧
      ∃ v', qAf w' 91 base sb v' (putL L d data) ∧ (v'.ownBlock = v.ownBlock ∨ ∃ b, v'.ownBlock = some b ∧ w.heap.size ≤ b) ∧ StepB w w' sb v.ownBlock := by
  have HD := Aside0.mk hD
  have HS := Aside0.mk hs
  have HH := Aside0.mk h
  clear hD hs h
  go_enter Tryd.func35, Tryd.ntmps35
  go_wp2_with fail
  refine (sum_Digest.calls kD data d w hT HD.out).mono ?_
  rintro e w1 ⟨rfl, hb1⟩
  have HB1 := Aside0.mk hb1
  have H1 := Aside0.mk (HH.out.below hb1)
  clear hb1 HD
  go_wp2_with fail
  refine (qCp base sb v L d w1 H1.out HS.out (by omega)).mono ?_
  rintro e w2 ⟨rfl, hb2⟩
  have HB2 := Aside0.mk (qAd HB1.out hb2)
  have H2 := Aside0.mk (H1.out.below hb2)
  clear hb2 H1 HB1
  have hpl : posK (dgs L) d ≤ L.length := by have := qBr (dgs L) d; rw [qAj] at this; exact this
  have HLT := Aside0.mk (fun (h : isK (dgs L) d = true) => (by have := (isK_lt h).1; rw [qAj] at this; exact this : posK (dgs L) d < L.length))
  have HPL : Aside0 (putL L d data = if isK (dgs L) d = true then L else L.take (posK (dgs L) d) ++ ⟨d, data⟩ :: L.drop (posK (dgs L) d)) := ⟨rfl⟩
  have HPR : Aside0 (putR L d data = if isK (dgs L) d = true ∧ (rd_T68 L (posK (dgs L) d : Nat)).f1 ≠ data then (⟨#[]⟩, 9) else (d, 0)) := ⟨rfl⟩
  generalize posK (dgs L) d = p at *
  obtain ⟨A, c, rfl, hc, hC⟩ := H2.out.reads
  have HC := Aside0.mk hC
  have hc0 := cell_of_one H2.out.cell
  clear hC
  cases hi : isK (dgs L) d with
  | true =>
    have hp := HLT.out hi
    have hp0 : 0 ≤ (p : Int) := by omega
    obtain ⟨ad, rfl, z0, z1⟩ := at_T68 HC.out (p : Int) hp0 (by omega)
    simp only [Int.toNat_natCast] at z0 z1
    have hR := HPR.out
    have hL := HPL.out
    rw [hi] at hR hL
    rw [if_pos rfl] at hL
    generalize rd_T68 L (p : Nat) = x at *
    obtain ⟨bq, hbq⟩ : ∃ b, (x.f1.toList == data.toList) = b := ⟨_, rfl⟩
    have hR2 : putR L d data = if bq = true then (d, 0) else (⟨#[]⟩, 9) := by
      rw [hR, ← hbq]
      by_cases e : x.f1 = data
      · rw [if_neg (fun h => h.2 e), if_pos (by rw [e]; simp)]
      · rw [if_pos ⟨rfl, e⟩, if_neg (fun h => e ((qAw _ _).1 (beq_iff_eq.1 h)))]
    have HR2 := Aside0.mk hR2
    have HL2 := Aside0.mk hL
    clear hR hL hR2 HPR HPL HLT hi
    cases bq with
    | true =>
      go_wp2_with fail
      go_ret2
      exact ⟨by rw [HR2.out]; rfl, _, by rw [HL2.out]; exact H2.out, .inl rfl, StepB.of_below HB2.out⟩
    | false =>
      go_wp2_with fail
      go_ret2
      exact ⟨by rw [HR2.out]; rfl, _, by rw [HL2.out]; exact H2.out, .inl rfl, StepB.of_below HB2.out⟩
  | false =>
    have hR := HPR.out
    have hL := HPL.out
    rw [hi] at hR hL
    rw [if_neg (by decide)] at hL
    rw [if_neg (fun h => by cases h.1)] at hR
    have HR2 := Aside0.mk hR
    have HL2 := Aside0.mk hL
    clear hR hL HPR HPL HLT hi
    go_wp2_with fail
    have hlt2 := own_lt H2.out.row
    refine (qDm (.slice A L.length c) L.length p base w2.heap.size 68 (cellsB L) [.string d, .string data] _ (H2.out.below (qAb (Below.refl w2.heap.size w2) _)).row hpl (qAq w2 _) rfl (fun e => by have := hlt2 _ e.symm; omega) (by have := HB2.out.size; have := (qAb (Below.refl w2.heap.size w2) (.cells #[Value.string d, Value.string data] 68)).size; omega) (by omega) (qA1 L) (by intro u hu; simp only [List.mem_cons, List.not_mem_nil, or_false] at hu; rcases hu with rfl | rfl <;> rfl)).mono ?_
    rintro e w4 ⟨v', rfl, ho4, hg4, hv4⟩
    obtain ⟨a4, b4, rfl⟩ := qC4 ho4
    have HS4 := Aside0.mk (StepB.trans (sb := sb) (r := (Value.slice A L.length c).ownBlock) (StepB.of_below (qAd HB2.out (qAb (Below.refl w2.heap.size w2) (.cells #[Value.string d, Value.string data] 68)))) (StepB.of_grown hg4) (.inl rfl))
    have hcell4 : w4.heap[sb]? = some (.cells #[.slice A L.length c] 91 (0, 0)) := (hg4.block sb (by have := blk_lt H2.out.cell; have := (qAb (Below.refl w2.heap.size w2) (.cells #[Value.string d, Value.string data] 68)).size; omega) (own_ne H2.out.row H2.out.cell (by decide))).trans (blk_alloc' H2.out.cell _)
    have hc4 := cell_of_one hcell4
    have hf4 := qA2 hcell4 0
    have HCE := Aside0.mk (one_setCell (u := .slice a4 (L.length + 1) b4) hcell4)
    have HO4 := Aside0.mk ho4
    have HV4 := Aside0.mk hv4
    have HWS := Aside0.mk (show w.heap.size ≤ (w2.alloc (.cells #[Value.string d, Value.string data] 68)).heap.size from by have := HB2.out.size; have := (qAb (Below.refl w2.heap.size w2) (.cells #[Value.string d, Value.string data] 68)).size; omega)
    have HNE := Aside0.mk (show ∀ k, (Value.slice a4 (L.length + 1) b4).ownBlock = some k → k ≠ sb from fun k hk e => by
      subst e
      exact own_ne ho4 hcell4 (by decide) hk.symm)
    clear hcell4 hg4 ho4 hv4 hc0
    go_wp2_with fail
    go_ret2
    refine ⟨by rw [HR2.out]; rfl, _, ⟨HCE.out, ?_⟩, ?_, HS4.out.set _⟩
    · rw [HL2.out]
      have e1 : (L.take p ++ ⟨d, data⟩ :: L.drop p).length = L.length + 1 := by simp; omega
      have e2 : cellsB (L.take p ++ ⟨d, data⟩ :: L.drop p) = (cellsB L).take (p * 2) ++ ([.string d, .string data] ++ (cellsB L).drop (p * 2)) := by
        rw [qBw, qBi, qBj]; rfl
      rw [e1, e2]
      exact qBo HO4.out (fun k hk => Below.heap_setCell w4 ⟨sb, 0, none⟩ _ k (HNE.out k hk))
    · rcases HV4.out with e | ⟨b, e, hb⟩
      · exact .inl e
      · exact .inr ⟨b, e, Nat.le_trans HWS.out hb⟩
end Go.Proofs.YtbnoihpooeombaaDoor.X

namespace Go.Proofs.YtbnoihpooeombaaDoor.X
open Go.RowKit Go.Proofs.YtbnoihpooeombaaDoorW.PrintWords Go.Proofs.YtbnoihpooeombaaDoorW.PrintLast Go.Proofs.YtbnoihpooeombaaDoorW.PrintMore Go.Proofs.YtbnoihpooeombaaDoor.P
set_option linter.unusedVariables false
set_option linter.unusedSimpArgs false
set_option maxHeartbeats 1600000 in
set_option maxRecDepth 100000 in
theorem qC9 (A : Option Addr) (n c : Nat) (news : List Value) (w : World) (hA : A = none → n = 0) (hl : news.length = n * 2) (hn : n * 32 ≤ 140737488355328) (hc : ∀ ad, A = some ad → ∀ j u, news[j]? = some u → w.cell? (ad.add j) = some u) (h1 : ∀ u ∈ news, u.oneCell' = true) :
    Calls Tryd.prog 61 #[.slice A n c] w fun e w' => ∃ v', e = .returned v' ∧ w'.ownsRow w.heap.size 68 2 v' n news ∧ Below w.heap.size w w' := by
  cases A with
  | none =>
    obtain rfl := hA rfl
    have hx : news = [] := List.length_eq_zero_iff.1 (by omega)
    subst hx
    clear hc
    have heq : ∀ W, (binOp .eql 55 (.slice none 0 c) (.slice none 0 0)).run Tryd.prog W = .ok (.bool true) W := fun W => Lib.run_eql_slice_nil W _ _ _ _ _ _ _ Tryd.underlying55
    go_enter Tryd.func61, Tryd.ntmps61
    go_wp2
    go_ret
    exact ⟨_, rfl, qEd _ _ _ _, Below.refl _ _⟩
  | some ad =>
    have hc := hc ad rfl
    obtain ⟨i0, hi0, hz0, hzs, hzb⟩ := info_parts (show (Tryd.prog.info? 68).map (fun i => (i.zero, i.size, i.bytes)) = some (some (.agg #[.string ⟨#[]⟩, .string ⟨#[]⟩]), 2, 32) by kernel_rfl)
    have heq : ∀ W, (binOp .eql 55 (.slice (some ad) n c) (.slice none 0 0)).run Tryd.prog W = .ok (.bool false) W := fun W => Lib.run_eql_slice_nil W _ _ _ _ _ _ _ Tryd.underlying55
    rcases Nat.eq_zero_or_pos n with rfl | hpos
    · have hx : news = [] := List.length_eq_zero_iff.1 (by omega)
      subst hx
      clear hc
      go_enter Tryd.func61, Tryd.ntmps61
      go_wp2
      go_ret
      refine ⟨_, rfl, ⟨by simp, .inr ⟨w.heap.size, 0, #[], rfl, Nat.le_refl _, qAq w _, Nat.le_refl _, by simp, by simp, by simp⟩⟩, qAb (Below.refl _ _) _⟩
    · have hB := qAb (Below.refl w.heap.size w) (.cells #[] 68)
      have hap := fun ty => run_append_grow_src (P := Tryd.prog) (w := w.alloc (.cells #[] 68)) 55 55 ty 68 i0 _ Tryd.underlying55 hi0 hz0 (some ⟨w.heap.size, 0, none⟩) 0 0 []
        (by rw [hzs]; exact run_firstCells_some _ 2 0 ⟨w.heap.size, 0, none⟩ 0 0 [] (by simp) (fun j u hj => by simp at hj)) (.slice (some ad) n c) n news
        (by rw [hzs]; exact Src.ofSlice _ Tryd.underlying55 ad n c news hl (fun j u hj => qAe hB (hc j u hj)) h1) (by omega) (by omega) (by rw [hzb]; exact growslice_fits (by omega) (by omega))
      have hge := grownCap_ge (w.alloc (.cells #[] 68)) (0 + n) 0 68
      have hle := grownCap_le_maxLen (w.alloc (.cells #[] 68)) (0 + n) 0 68 (by unfold maxLen; omega)
      have hsz : (w.alloc (.cells #[] 68)).heap.size = w.heap.size + 1 := by simp [World.alloc, -World.alloc_eq]
      generalize grownCap (w.alloc (.cells #[] 68)) (0 + n) 0 68 = G at *
      simp only [Nat.zero_add, List.nil_append, hsz] at hap hge
      have HAP := Aside0.mk hap
      have HGE := Aside0.mk hge
      have HLE := Aside0.mk hle
      clear hap hge hle hsz hc
      go_enter Tryd.func61, Tryd.ntmps61
      go_wp2_with (at_builtin; refine qAk rfl _ _ 55 55 rfl _ _ _ _ rfl rfl (HAP.out _) ?_)
      go_ret
      exact ⟨_, rfl, qB7 (z := (.agg #[.string ⟨#[]⟩, .string ⟨#[]⟩] : Value).cells) hl rfl HGE.out HLE.out _ (by simp [World.alloc, -World.alloc_eq]) (by omega), qAc (qAb (qAb (Below.refl _ _) _) _)⟩
end Go.Proofs.YtbnoihpooeombaaDoor.X

namespace Go.Proofs.YtbnoihpooeombaaDoor.X
open Go.RowKit Go.Proofs.YtbnoihpooeombaaDoorW.PrintWords Go.Proofs.YtbnoihpooeombaaDoorW.PrintLast Go.Proofs.YtbnoihpooeombaaDoorW.PrintMore Go.Proofs.YtbnoihpooeombaaDoor.P
set_option linter.unusedVariables false
set_option linter.unusedSimpArgs false
def getB (L : List S68) (d : ByteArray) : ByteArray × Bool := if isK (dgs L) d = true then ((rd_T68 L (posK (dgs L) d : Nat)).f1, true) else (⟨#[]⟩, false)
set_option maxHeartbeats 8000000 in
set_option maxRecDepth 100000 in
theorem qCd (base sb : Nat) (v : Value) (L : List S68) (d : ByteArray) (w : World) (h : qAf w 91 base sb v L) (hs : qAh (dgs L) = true) (hn : L.length ≤ 100000) :
    Calls Tryd.prog 37 #[.pointer (some ⟨sb, 0, none⟩), .string d] w fun e w' => e = .returned (.tuple #[.string (getB L d).1, .bool (getB L d).2]) ∧ Below w.heap.size w w' := by
  have HS := Aside0.mk hs
  have HH := Aside0.mk h
  clear hs h
  go_enter Tryd.func37, Tryd.ntmps37
  go_wp2_with fail
  refine (qCp base sb v L d w HH.out HS.out (by omega)).mono ?_
  rintro e w2 ⟨rfl, hb2⟩
  have HB2 := Aside0.mk hb2
  have H2 := Aside0.mk (HH.out.below hb2)
  clear hb2
  have HLT := Aside0.mk (fun (h : isK (dgs L) d = true) => (by have := (isK_lt h).1; rw [qAj] at this; exact this : posK (dgs L) d < L.length))
  have HG : Aside0 (getB L d = if isK (dgs L) d = true then ((rd_T68 L (posK (dgs L) d : Nat)).f1, true) else (⟨#[]⟩, false)) := ⟨rfl⟩
  generalize posK (dgs L) d = p at *
  obtain ⟨A, c, rfl, hc, hC⟩ := H2.out.reads
  have HC := Aside0.mk hC
  have hc0 := cell_of_one H2.out.cell
  clear hC
  cases hi : isK (dgs L) d with
  | true =>
    have hp := HLT.out hi
    have hp0 : 0 ≤ (p : Int) := by omega
    obtain ⟨ad, rfl, z0, z1⟩ := at_T68 HC.out (p : Int) hp0 (by omega)
    simp only [Int.toNat_natCast] at z0 z1
    have hR := HG.out
    rw [if_pos hi] at hR
    have HR := Aside0.mk hR
    clear hR HG HLT hi
    generalize rd_T68 L (p : Nat) = x at *
    go_wp2_with fail
    go_ret2
    exact ⟨by rw [HR.out]; rfl, HB2.out⟩
  | false =>
    have hR := HG.out
    rw [if_neg (by rw [hi]; decide)] at hR
    have HR := Aside0.mk hR
    clear hR HG HLT hi
    go_wp2_with fail
    go_ret2
    exact ⟨by rw [HR.out]; rfl, HB2.out⟩
set_option maxHeartbeats 4000000 in
theorem qCa (base sb : Nat) (v : Value) (L : List S68) (w : World) (h : qAf w 91 base sb v L) :
    Calls Tryd.prog 40 #[.pointer (some ⟨sb, 0, none⟩)] w fun e w' => e = .returned (.int .i64 (L.length : Nat)) ∧ w = w' := by
  obtain ⟨A, c, rfl, hc, hC⟩ := h.reads
  have hc0 := cell_of_one h.cell
  clear h hC
  go_enter Tryd.func40, Tryd.ntmps40
  go_wp2_with fail
  go_ret
  exact ⟨rfl, rfl⟩
set_option maxHeartbeats 4000000 in
theorem qCm (base sb : Nat) (v : Value) (L : List S68) (w : World) (h : qAf w 91 base sb v L) (hn : L.length ≤ 100000) :
    Calls Tryd.prog 39 #[.pointer (some ⟨sb, 0, none⟩)] w fun e w' => ∃ v', e = .returned v' ∧ w'.ownsRow w.heap.size 68 2 v' L.length (cellsB L) ∧ Below w.heap.size w w' := by
  have HN := Aside0.mk (fun (A : Option Addr) (c : Nat) (e : v = .slice A L.length c) => qCs (a := A) (c := c) (e ▸ h.row))
  have HA := Aside0.mk (fun (A : Option Addr) (c : Nat) (e : v = .slice A L.length c) (e2 : A = none) => show L.length = 0 from by
    subst e2
    rcases h.row.2 with ⟨e1, e3⟩ | ⟨g, cap, cur, he, _⟩
    · exact e3
    · rw [e] at he; cases he)
  obtain ⟨A, c, rfl, hc, hC⟩ := h.reads
  have hc0 := cell_of_one h.cell
  clear h hC
  go_enter Tryd.func39, Tryd.ntmps39
  go_wp2_with fail
  refine (qC9 A L.length c (cellsB L) w (HA.out A c rfl) (qBv L) (by omega) (HN.out A c rfl) (qA1 L)).mono ?_
  rintro e w1 ⟨v', rfl, ho, hb⟩
  have HO := Aside0.mk ho
  have HB := Aside0.mk hb
  clear ho hb
  go_wp2_with fail
  go_ret
  exact ⟨_, rfl, HO.out, HB.out⟩
set_option maxHeartbeats 4000000 in
theorem qB9 (w : World) : Calls Tryd.prog 34 #[] w fun e w' => e = .returned (.pointer (some ⟨w.heap.size, 0, none⟩)) ∧ qAf w' 91 w.heap.size w.heap.size (.slice none 0 0) [] ∧ Below w.heap.size w w' := by
  have HB := Aside0.mk (qAb (Below.refl w.heap.size w) (.cells #[.slice none 0 0] 91))
  have HN := Aside0.mk (qAq w (.cells #[.slice none 0 0] 91))
  go_enter Tryd.func34, Tryd.ntmps34
  go_wp2_with fail
  go_ret
  exact ⟨rfl, ⟨HN.out, ⟨rfl, .inl ⟨rfl, rfl⟩⟩⟩, HB.out⟩
end Go.Proofs.YtbnoihpooeombaaDoor.X

namespace Go.Proofs.YtbnoihpooeombaaDoor.X
open Go.RowKit Go.Proofs.YtbnoihpooeombaaDoorW.PrintWords Go.Proofs.YtbnoihpooeombaaDoorW.PrintLast Go.Proofs.YtbnoihpooeombaaDoorW.PrintMore Go.Proofs.YtbnoihpooeombaaDoor.P
set_option linter.unusedVariables false
set_option linter.unusedSimpArgs false
set_option maxHeartbeats 80000000 in
set_option maxRecDepth 100000 in
theorem qC1 (kD base sb : Nat) (v : Value) (L : List S68) (data d : ByteArray) (w : World) (h : qAf w 57 base sb v L) (hs : qAh (dgs L) = true) (hn : L.length ≤ 100000) (hD : hogsheadref6_Digest.f kD data = some d) (hbase : base ≤ w.heap.size) :
    Calls Tryd.prog 36 #[.pointer (some ⟨sb, 0, none⟩), .string data] w fun e w' => e = .returned (.tuple #[.string (putR L d data).1, .int .i64 (putR L d data).2]) ∧
      ∃ v', qAf w' 57 base sb v' (putL L d data) ∧ (v'.ownBlock = v.ownBlock ∨ ∃ b, v'.ownBlock = some b ∧ w.heap.size ≤ b) ∧ StepB w w' sb v.ownBlock := by
  have HD := Aside0.mk hD
  have HS := Aside0.mk hs
  have HH := Aside0.mk h
  clear hD hs h
  have hpl : posK (dgs L) d ≤ L.length := by have := qBr (dgs L) d; rw [qAj] at this; exact this
  have HPI := Aside0.mk (fun (i : Nat) (h : i < L.length) => (by
    have := qA4 (dgs L) d HS.out i (by rw [qAj]; exact h)
    rw [qAu L i h] at this
    exact this : lessB L[i].f0 d = true ↔ i < posK (dgs L) d))
  have HII := Aside0.mk (by
    unfold isK
    rw [decide_eq_decide]
    constructor
    · rintro ⟨h, e⟩
      rw [qAj] at h
      refine ⟨h, ?_⟩
      rw [qAu L _ h] at e
      exact e
    · rintro ⟨h, e⟩
      refine ⟨by rw [qAj]; exact h, ?_⟩
      rw [qAu L _ h]
      exact e : isK (dgs L) d = decide (∃ h : posK (dgs L) d < L.length, L[posK (dgs L) d].f0 = d))
  have HPL : Aside0 (putL L d data = if isK (dgs L) d = true then L else L.take (posK (dgs L) d) ++ ⟨d, data⟩ :: L.drop (posK (dgs L) d)) := ⟨rfl⟩
  have HPR : Aside0 (putR L d data = if isK (dgs L) d = true ∧ (rd_T68 L (posK (dgs L) d : Nat)).f1 ≠ data then (⟨#[]⟩, 9) else (d, 0)) := ⟨rfl⟩
  generalize posK (dgs L) d = p at *
  go_enter Tryd.func36, Tryd.ntmps36
  go_wp2_with fail
  refine (hogsheadref6_Digest.calls kD data d w HD.out).mono ?_
  rintro e w2 ⟨rfl, hb2⟩
  have HB2 := Aside0.mk hb2
  have H2 := Aside0.mk (HH.out.below hb2)
  clear hb2 HD
  obtain ⟨A, c, rfl, hc, hC⟩ := H2.out.reads
  have HC := Aside0.mk hC
  have hc0 := cell_of_one H2.out.cell
  clear hC
  go_upto_block 0 with (fail)
  go_cut [7] (fun v7 wc => v7 = .int .i64 (p : Nat) ∧ w2 = wc)
  case first =>
    go_wp2_with fail
    go_loop [7] (fun v7 => ∃ k : Nat, v7 = .int .i64 k ∧ k ≤ p) (fun v => p - (intOf v).toNat)
    case atStart => exact ⟨0, rfl, by omega⟩
    case round =>
      obtain ⟨k, rfl, hk⟩ := hrel
      by_cases hkl : k < L.length
      · have hkc : decide ((k : Int) < (L.length : Int)) = true := by simp; omega
        have hk0 : 0 ≤ (k : Int) := by omega
        obtain ⟨ad, rfl, z0, z1⟩ := at_T68 HC.out (k : Int) hk0 (by omega)
        simp only [Int.toNat_natCast] at z0 z1
        have HX := Aside0.mk (qBa L k hkl)
        generalize rd_T68 L (k : Int) = x at *
        have hpi := HPI.out k hkl
        rw [← HX.out] at hpi
        cases hl : lessB x.f0 d with
        | true =>
          have hkp := hpi.1 hl
          have hll : Op.bytesLess x.f0.toList d.toList = true := hl
          clear hl hpi HX
          go_wp2_with fail
          go_round
          case rel => exact ⟨k + 1, by go_num, by omega⟩
          case measure => simp [intOf]; omega
        | false =>
          have hkp : ¬ k < p := fun c => by rw [hpi.2 c] at hl; cases hl
          have hll : Op.bytesLess x.f0.toList d.toList = false := hl
          have HKP := Aside0.mk (show k = p by omega)
          clear hl hpi HX hkp
          go_wp2_with fail
          go_meet
          exact ⟨by rw [HKP.out], rfl⟩
      · have hkc : decide ((k : Int) < (L.length : Int)) = false := by simp; omega
        have hkn : decide (k < L.length) = false := by simp; omega
        have HKP := Aside0.mk (show k = p by omega)
        clear hkl
        go_wp2_with fail
        go_meet
        exact ⟨by rw [HKP.out], rfl⟩
  case rest =>
    obtain ⟨rfl, rfl⟩ := hcut
    have hp0 : 0 ≤ (p : Int) := by omega
    go_upto_region 5 with (fail)
    go_cut [49] (fun v49 wc => v49 = .bool (isK (dgs L) d) ∧ w2 = wc)
    case first =>
      by_cases hpl2 : p < L.length
      · have hkc : decide ((p : Int) < (L.length : Int)) = true := by simp; omega
        obtain ⟨ad, rfl, z0, z1⟩ := at_T68 HC.out (p : Int) hp0 (by omega)
        simp only [Int.toNat_natCast] at z0 z1
        have HX := Aside0.mk (qBa L p hpl2)
        generalize rd_T68 L (p : Int) = x at *
        have HQ := Aside0.mk (show isK (dgs L) d = (x.f0.toList == d.toList) by
          rw [HII.out, Bool.eq_iff_iff, decide_eq_true_eq, beq_iff_eq, qAw, HX.out]
          exact ⟨fun ⟨_, h⟩ => h, fun h => ⟨hpl2, h⟩⟩)
        clear HX
        generalize isK (dgs L) d = q at *
        go_wp2_with fail
        go_meet
        exact ⟨by rw [HQ.out], rfl⟩
      · have hkc : decide ((p : Int) < (L.length : Int)) = false := by simp; omega
        have hkn : decide (p < L.length) = false := by simp; omega
        have HQ := Aside0.mk (show isK (dgs L) d = false by
          rw [HII.out, decide_eq_false_iff_not]
          exact fun ⟨h, _⟩ => hpl2 h)
        clear hpl2
        generalize isK (dgs L) d = q at *
        go_wp2_with fail
        go_meet
        exact ⟨by rw [HQ.out], rfl⟩
    case rest =>
      obtain ⟨rfl, rfl⟩ := hcut
      have hR := HPR.out
      have hL := HPL.out
      cases hi : isK (dgs L) d with
      | true =>
        have hpl2 : p < L.length := by
          have h1 := HII.out
          rw [hi] at h1
          obtain ⟨h2, _⟩ := of_decide_eq_true h1.symm
          exact h2
        obtain ⟨ad, rfl, z0, z1⟩ := at_T68 HC.out (p : Int) hp0 (by omega)
        simp only [Int.toNat_natCast] at z0 z1
        rw [hi] at hR hL
        rw [if_pos rfl] at hL
        generalize rd_T68 L (p : Nat) = x at *
        obtain ⟨bq, hbq⟩ : ∃ b, (x.f1.toList == data.toList) = b := ⟨_, rfl⟩
        have hbn : (x.f1.toList != data.toList) = !bq := by rw [← hbq]; rfl
        have hR2 : putR L d data = if bq = true then (d, 0) else (⟨#[]⟩, 9) := by
          rw [hR, ← hbq]
          by_cases e : x.f1 = data
          · rw [if_neg (fun h => h.2 e), if_pos (by rw [e]; simp)]
          · rw [if_pos ⟨rfl, e⟩, if_neg (fun h => e ((qAw _ _).1 (beq_iff_eq.1 h)))]
        have HR2 := Aside0.mk hR2
        have HL2 := Aside0.mk hL
        clear hR hL hR2 HPR HPL hi HPI HII
        cases bq with
        | true =>
          go_wp2_with fail
          go_ret2
          exact ⟨by rw [HR2.out]; rfl, _, by rw [HL2.out]; exact H2.out, .inl rfl, StepB.of_below HB2.out⟩
        | false =>
          go_wp2_with fail
          go_ret2
          exact ⟨by rw [HR2.out]; rfl, _, by rw [HL2.out]; exact H2.out, .inl rfl, StepB.of_below HB2.out⟩
      | false =>
        rw [hi] at hR hL
        rw [if_neg (by decide)] at hL
        rw [if_neg (fun h => by cases h.1)] at hR
        have HR2 := Aside0.mk hR
        have HL2 := Aside0.mk hL
        clear hR hL HPR HPL hi HPI HII
        go_upto_region 9 with (fail)
        go_cut [] (fun wc => ∃ (W1 : World) (a6 : Option Addr) (b6 : Nat), Aside0 (Below w2.heap.size w2 W1) ∧ Aside0 (W1.ownsRow w2.heap.size 68 2 (.slice a6 (L.length + 1) b6) (L.length + 1) ((cellsB L).take (p * 2) ++ [.string d, .string data] ++ (cellsB L).drop (p * 2))) ∧ Aside0 (∃ n, wc = (W1.setCell ⟨sb, 0, none⟩ (.slice a6 (L.length + 1) b6)).drewN n))
        case first =>
          have hLL := qBv L
          have hpb : (p : Int) ≤ (c : Int) := by omega
          have hpc : (p : Int) ≤ (L.length : Int) := by omega
          have hLb : (L.length : Int) ≤ (c : Int) := by omega
          have HBW := Aside0.mk (Below.refl w2.heap.size w2)
          have HY := Aside0.mk hc0
          have HN := Aside0.mk (qCs H2.out.row)
          have HA := Aside0.mk (fun e : A = none => show L.length = 0 from by
            subst e
            rcases H2.out.row.2 with ⟨e1, e2⟩ | ⟨g, cap, cur, he, _⟩
            · exact e2
            · cases he)
          have HR := Aside0.mk (qEs (A := if c = p then A else Option.map (fun x => x.add (p * 2)) A) H2.out.row p (by omega) (fun ad ha => by
            split at ha
            · exact .inl ⟨by omega, ha⟩
            · rcases H2.out.row.2 with ⟨e1, e2⟩ | ⟨g, cap, cur, he, _⟩
              · injection e1 with e3 _ _
                subst e3
                cases ha
              · injection he with e3 _ _
                subst e3
                cases ha
                refine .inr ⟨g, rfl, ?_⟩
                simp only [Addr.add, Nat.zero_add]; split <;> first | rfl | (rename_i h_; rw [h_])))
          have HCA := Aside0.mk (fun e : (if c = p then A else Option.map (fun x => x.add (p * 2)) A) = none => show L.length - p = 0 from by
            have h0 : A = none := by
              split at e
              · exact e
              · cases A with
                | none => rfl
                | some _ => cases e
            have := HA.out h0
            omega)
          have y_0a : ∀ o, (w2.alloc o).cell? ⟨sb, 0, none⟩ = some (.slice A L.length c) := fun o => qAe (qAb (Below.refl w2.heap.size w2) o) HY.out
          have HLL := Aside0.mk hLL
          clear hLL
          go_region_law (first
            | (refine qAn (w2.heap.size) rfl (.const (.slice none 0 0)) (.tmp 67) 55 68 (.agg #[(.string ⟨#[]⟩), (.string ⟨#[]⟩)]) 2 32 rfl Tryd.underlying55 (by kernel_rfl) rfl (by decide) (by decide) (.slice none 0 0) (0) ([]) (A) (p) (c) ((cellsB L).take (p * 2)) rfl (by simp [Act.eval, Act.put]) ⟨rfl, .inl ⟨rfl, rfl⟩⟩ ?cA ?cL ?cN ?c1 ?cB ?cG ?_; (case cA => intro e; have := HA.out e; omega); (case cL => simp [HLL.out]; omega); (case cN => exact qCl (by repeat (first | exact Below.refl _ _ | exact HBW.out | apply qAc | apply qAa | apply qAb)) (qEg (p * 2) HN.out)); (case c1 => exact fun u hu => qA1 L u (List.mem_of_mem_take hu)); (case cB => exact qAg (by repeat (first | exact Below.refl _ _ | exact HBW.out | apply qAc | apply qAa | apply qAb))); (case cG => omega); intro v3 w3 hv3 hg3 _; simp only [Nat.zero_add, List.nil_append] at hv3; have HV3 := Aside0.mk hv3; (try have HKB := Aside0.mk (qEm (g := w2.heap.size) (o := .cells #[.string d, .string data] 68 (0, 0)) (by first | exact qAq _ _ | exact qAq w2.drew _) hg3 (by simp [Value.ownBlock]))); have HBN : Aside0 (Below w2.heap.size w2 w3) := ⟨below_grown' (by repeat (first | exact Below.refl _ _ | exact HBW.out | apply qAc | apply qAa | apply qAb)) hg3 (fun k hk => by cases hk)⟩; clear HBW; have HBW := HBN; clear HBN hv3 hg3; have y_3 := qAe HBW.out HY.out; have y_3a : ∀ o, (w3.alloc o).cell? ⟨sb, 0, none⟩ = some (.slice A L.length c) := fun o => qAe (qAb HBW.out o) HY.out)
            | (refine qAn (w2.heap.size) rfl (.tmp 68) (.tmp 72) 55 68 (.agg #[(.string ⟨#[]⟩), (.string ⟨#[]⟩)]) 2 32 rfl Tryd.underlying55 (by kernel_rfl) rfl (by decide) (by decide) (v3) (p) ((cellsB L).take (p * 2)) (some ⟨w3.heap.size, 0, none⟩) (1) (1) ([.string d, .string data]) (by simp [Act.eval, Act.put]) (by simp [Act.eval, Act.put]) (qC5 HV3.out (by repeat (first | exact Below.refl _ _ | apply qAc | apply qAa | apply qAb))) ?cA ?cL ?cN ?c1 ?cB ?cG ?_; (case cA => intro e; cases e); (case cL => rfl); (case cN => exact qCu (by first | exact qAq w3 _ | exact qAq w3.drew _)); (case c1 => intro u hu; simp only [List.mem_cons, List.not_mem_nil, or_false] at hu; rcases hu with rfl | rfl <;> rfl); (case cB => exact qAg (by repeat (first | exact Below.refl _ _ | exact HBW.out | apply qAc | apply qAa | apply qAb))); (case cG => omega); intro v4 w4 hv4 hg4 _; have HV4 := Aside0.mk hv4; have HBN : Aside0 (Below w2.heap.size w2 w4) := ⟨below_grown' (by repeat (first | exact Below.refl _ _ | exact HBW.out | apply qAc | apply qAa | apply qAb)) hg4 (fun k hk => qAo HV3.out k hk)⟩; clear HBW; have HBW := HBN; clear HBN hv4 hg4; have y_4 := qAe HBW.out HY.out; have y_4a : ∀ o, (w4.alloc o).cell? ⟨sb, 0, none⟩ = some (.slice A L.length c) := fun o => qAe (qAb HBW.out o) HY.out)
            | (refine qAn (w2.heap.size) rfl (.tmp 68) (.tmp 72) 55 68 (.agg #[(.string ⟨#[]⟩), (.string ⟨#[]⟩)]) 2 32 rfl Tryd.underlying55 (by kernel_rfl) rfl (by decide) (by decide) (v3) (p) ((cellsB L).take (p * 2)) (some ⟨w2.heap.size, 0, none⟩) (1) (1) ([.string d, .string data]) (by simp [Act.eval, Act.put]) (by simp [Act.eval, Act.put]) (qC5 HV3.out (by repeat (first | exact Below.refl _ _ | apply qAc | apply qAa | apply qAb))) ?cA ?cL ?cN ?c1 ?cB ?cG ?_; (case cA => intro e; cases e); (case cL => rfl); (case cN => exact qCu HKB.out); (case c1 => intro u hu; simp only [List.mem_cons, List.not_mem_nil, or_false] at hu; rcases hu with rfl | rfl <;> rfl); (case cB => exact qAg (by repeat (first | exact Below.refl _ _ | exact HBW.out | apply qAc | apply qAa | apply qAb))); (case cG => omega); intro v4 w4 hv4 hg4 _; have HV4 := Aside0.mk hv4; have HBN : Aside0 (Below w2.heap.size w2 w4) := ⟨below_grown' (by repeat (first | exact Below.refl _ _ | exact HBW.out | apply qAc | apply qAa | apply qAb)) hg4 (fun k hk => qAo HV3.out k hk)⟩; clear HBW; have HBW := HBN; clear HBN hv4 hg4; have y_4 := qAe HBW.out HY.out; have y_4a : ∀ o, (w4.alloc o).cell? ⟨sb, 0, none⟩ = some (.slice A L.length c) := fun o => qAe (qAb HBW.out o) HY.out)
            | (refine qAn (w2.heap.size) rfl (.tmp 73) (.tmp 79) 55 68 (.agg #[(.string ⟨#[]⟩), (.string ⟨#[]⟩)]) 2 32 rfl Tryd.underlying55 (by kernel_rfl) rfl (by decide) (by decide) (v4) (p + 1) ((cellsB L).take (p * 2) ++ [.string d, .string data]) (if c = p then A else Option.map (fun x => x.add (p * 2)) A) (L.length - p) (c - p) ((cellsB L).drop (p * 2)) (by simp [Act.eval, Act.put]) (by simp [Act.eval, Act.put]) HV4.out ?cA ?cL ?cN ?c1 ?cB ?cG ?_; (case cA => exact HCA.out); (case cL => simp [HLL.out]; omega); (case cN => exact qCl (by repeat (first | exact Below.refl _ _ | exact HBW.out | apply qAc | apply qAa | apply qAb)) HR.out); (case c1 => exact fun u hu => qA1 L u (List.mem_of_mem_drop hu)); (case cB => exact qAg (by repeat (first | exact Below.refl _ _ | exact HBW.out | apply qAc | apply qAa | apply qAb))); (case cG => omega); intro v5 w5 hv5 hg5 _; rw [show p + 1 + (L.length - p) = L.length + 1 from by omega] at hv5; obtain ⟨a6, b6, ev5⟩ := qC4 hv5; subst ev5; have HV5 := Aside0.mk hv5; have HBN : Aside0 (Below w2.heap.size w2 w5) := ⟨below_grown' (by repeat (first | exact Below.refl _ _ | exact HBW.out | apply qAc | apply qAa | apply qAb)) hg5 (fun k hk => qAo HV4.out k hk)⟩; clear HBW; have HBW := HBN; clear HBN hv5 hg5; have y_5 := qAe HBW.out HY.out; have y_5a : ∀ o, (w5.alloc o).cell? ⟨sb, 0, none⟩ = some (.slice A L.length c) := fun o => qAe (qAb HBW.out o) HY.out; have hfz5 := fun k => qA2 (qBc H2.out.cell HBW.out) k; have hlt5 := qAg HBW.out; have hsb5 := blk_lt (qBc H2.out.cell HBW.out)))
          all_goals
            (try generalize (if c = p then A else Option.map (fun x => x.add (p * 2)) A) = AX at *)
            go_wp2_with fail
          all_goals
            go_meet
            exact ⟨_, _, _, HBW, HV5, ⟨⟨_, (by first | rfl | exact (World.drewN_zero _).symm | simp)⟩⟩⟩
        case rest =>
          obtain ⟨W1, a6, b6, HBW, HV5, hD⟩ := hcut
          obtain ⟨nd, rfl⟩ := hD.out
          clear hD
          have hcell4 := qBc H2.out.cell HBW.out
          have HCE := Aside0.mk (one_setCell (u := .slice a6 (L.length + 1) b6) hcell4)
          have HNE := Aside0.mk (show ∀ k, (Value.slice a6 (L.length + 1) b6).ownBlock = some k → k ≠ sb from fun k hk e => by
            subst e
            exact own_ne HV5.out hcell4 (by decide) hk.symm)
          have HST := Aside0.mk ((StepB.of_below (sb := sb) (r := (Value.slice A L.length c).ownBlock) (qAd HB2.out HBW.out)).set (.slice a6 (L.length + 1) b6))
          have hsz2 := qAg HB2.out
          clear hcell4 hc0
          go_wp2_with fail
          go_ret2
          refine ⟨by rw [HR2.out]; rfl, _, ⟨HCE.out, ?_⟩, ?_, ⟨HST.out.os, ?_, HST.out.output, HST.out.size, HST.out.block⟩⟩
          · rw [HL2.out]
            have e1 : (L.take p ++ ⟨d, data⟩ :: L.drop p).length = L.length + 1 := by simp; omega
            have e2 : cellsB (L.take p ++ ⟨d, data⟩ :: L.drop p) = (cellsB L).take (p * 2) ++ [.string d, .string data] ++ (cellsB L).drop (p * 2) := by
              rw [qBw, qBi, qBj, List.append_assoc]; rfl
            rw [e1, e2]
            exact qBs (qBo HV5.out (fun k hk => Below.heap_setCell W1 ⟨sb, 0, none⟩ _ k (HNE.out k hk))) (by omega)
          · cases hob : (Value.slice a6 (L.length + 1) b6).ownBlock with
            | none =>
              rcases HV5.out.2 with ⟨e1, e2⟩ | ⟨g, cap, cur, he, _⟩
              · omega
              · injection he with e3 _ _
                subst e3
                cases hob
            | some b => exact .inr ⟨b, rfl, Nat.le_trans hsz2 (qAo HV5.out b hob)⟩
          · exact HST.out.tape
end Go.Proofs.YtbnoihpooeombaaDoor.X

namespace Go.Proofs.YtbnoihpooeombaaDoor.X
open Go.RowKit Go.Proofs.YtbnoihpooeombaaDoorW.PrintWords Go.Proofs.YtbnoihpooeombaaDoorW.PrintLast Go.Proofs.YtbnoihpooeombaaDoorW.PrintMore Go.Proofs.YtbnoihpooeombaaDoor.P
set_option linter.unusedVariables false
set_option linter.unusedSimpArgs false
set_option maxHeartbeats 8000000 in
set_option maxRecDepth 100000 in
theorem qDh (kD : Nat) (x : S68) (dx : ByteArray) (w : World) (hT : Aside0 (Tabs w)) (hD : sum_Digest.f kD x.f1 = some dx) :
    Calls Tryd.prog 65 #[.agg #[.string x.f0, .string x.f1]] w fun e w' => e = .returned (.bool (!(x.f0.toList == dx.toList))) ∧ Below w.heap.size w w' := by
  have HD := Aside0.mk hD
  have HB0 := Aside0.mk (qAb (Below.refl w.heap.size w) (.cells #[.string x.f0, .string x.f1] 68))
  have HX := Aside0.mk (qAq w (.cells #[.string x.f0, .string x.f1] 68))
  clear hD
  go_enter Tryd.func65, Tryd.ntmps65
  go_wp2_with fail
  generalize w.alloc (.cells #[.string x.f0, .string x.f1] 68) = W0 at *
  have z0 : W0.cell? ⟨w.heap.size, 0, none⟩ = some (.string x.f0) := (qAy HX.out 0).trans rfl
  have z1 : W0.cell? ⟨w.heap.size, 1, none⟩ = some (.string x.f1) := (qAy HX.out 1).trans rfl
  go_region_with (go_at_call 43; refine (sum_Digest.calls kD x.f1 dx _ ⟨Tabs.below hT.out (by repeat (first | exact HB0.out | apply qAc | apply qAa))⟩ HD.out).mono ?_; rintro e w1 ⟨rfl, hb1⟩; have HB1 : Aside0 (Below w.heap.size w w1) := ⟨qAd (by repeat (first | exact HB0.out | apply qAc | apply qAa)) hb1⟩; have HX1 : Aside0 (w1.heap[w.heap.size]? = _) := ⟨qBc (by exact HX.out) hb1⟩; have z0_1 : w1.cell? ⟨w.heap.size, 0, none⟩ = some (.string x.f0) := (qAy HX1.out 0).trans rfl; clear hb1)
  all_goals
    go_wp2_with fail
    go_ret
    exact ⟨rfl, HB1.out⟩
def badB (dg : ByteArray → ByteArray) (x : S68) : Bool := !(x.f0.toList == (dg x.f1).toList)
set_option maxHeartbeats 8000000 in
set_option maxRecDepth 100000 in
theorem qDn (kD : Nat) (dg : ByteArray → ByteArray) (A : Option Addr) (c : Nat) (L : List S68) (w : World) (hT : Aside0 (Tabs w)) (hr : Kd.C k68 w A L.length L) (hc : L.length ≤ c) (hD : ∀ x ∈ L, sum_Digest.f kD x.f1 = some (dg x.f1)) :
    Calls Tryd.prog 92 #[.slice A L.length c, .func (.func 65) #[] #[]] w fun e w' => ∃ r : Int, e = .returned (.int .i64 r) ∧ decide (0 ≤ r) = L.any (badB dg) ∧ Below w.heap.size w w' := by
  have X := Aside0.mk hr
  have HD := Aside0.mk hD
  have hn : L.length ≤ 9223372036854775807 := hr.2.1
  have HB0 := Aside0.mk (Below.refl w.heap.size w)
  clear hr hD
  go_enter Tryd.func92, Tryd.ntmps92
  go_wp2_with fail
  go_loopw [8] (fun v8 wr => ∃ k : Nat, v8 = .int .i64 k ∧ k ≤ L.length ∧ Aside0 (∀ j (h : j < k) (h2 : j < L.length), badB dg L[j] = false) ∧ Aside0 (Below w.heap.size w wr)) (fun a _ => L.length - (intOf a).toNat)
  case atStart => exact ⟨0, rfl, by omega, ⟨fun j h => by omega⟩, HB0⟩
  case round =>
    obtain ⟨k, rfl, hk, HA, HB⟩ := hrel
    clear HB0
    by_cases hkl : k < L.length
    · have hkc : decide ((k : Int) < (L.length : Int)) = true := by simp; omega
      have hk0 : 0 ≤ (k : Int) := by omega
      obtain ⟨ad, rfl, z0, z1⟩ := at_T68 (Kd.C_below X.out HB.out) (k : Int) hk0 (by omega)
      simp only [Int.toNat_natCast] at z0 z1
      have HX := Aside0.mk (qBa L k hkl)
      generalize rd_T68 L (k : Int) = x at *
      have HDX := Aside0.mk (HD.out x (by rw [HX.out]; exact List.getElem_mem _))
      go_wp2_with fail
      refine (qDh kD x (dg x.f1) wr ⟨Tabs.below hT.out HB.out⟩ HDX.out).mono ?_
      rintro e w1 ⟨rfl, hb1⟩
      have HB1 := Aside0.mk (qAd HB.out hb1)
      clear hb1 z0 z1 HB HDX
      obtain ⟨bx, hbx⟩ : ∃ b, (x.f0.toList == (dg x.f1).toList) = b := ⟨_, rfl⟩
      have HBX := Aside0.mk (show badB dg x = !bx by rw [← hbx]; rfl)
      cases bx with
      | true =>
        go_wp2_with fail
        go_roundw
        case rel => exact ⟨k + 1, by go_num, by omega, ⟨fun j h h2 => by
          by_cases e : j = k
          · subst e
            rw [← HX.out, HBX.out]; rfl
          · exact HA.out j (by omega) h2⟩, HB1⟩
        case measure => simp [intOf]; omega
      | false =>
        go_wp2_with fail
        go_ret
        refine ⟨(k : Int), rfl, ?_, HB1.out⟩
        rw [decide_eq_true hk0]
        symm
        rw [List.any_eq_true]
        exact ⟨L[k], List.getElem_mem _, by rw [← HX.out, HBX.out]; rfl⟩
    · have hkc : decide ((k : Int) < (L.length : Int)) = false := by simp; omega
      have hkn : decide (k < L.length) = false := by simp; omega
      go_wp2_with fail
      go_ret
      refine ⟨-1, rfl, ?_, HB.out⟩
      rw [decide_eq_false (by omega)]
      symm
      rw [List.any_eq_false]
      intro x hx
      obtain ⟨j, hj, rfl⟩ := List.getElem_of_mem hx
      rw [HA.out j (by omega) hj]
      simp
set_option maxHeartbeats 8000000 in
theorem qCi (kD : Nat) (dg : ByteArray → ByteArray) (A : Option Addr) (c : Nat) (L : List S68) (w : World) (hT : Aside0 (Tabs w)) (hr : Kd.C k68 w A L.length L) (hc : L.length ≤ c) (hD : ∀ x ∈ L, sum_Digest.f kD x.f1 = some (dg x.f1)) :
    Calls Tryd.prog 64 #[.slice A L.length c, .func (.func 65) #[] #[]] w fun e w' => e = .returned (.bool (L.any (badB dg))) ∧ Below w.heap.size w w' := by
  have X := Aside0.mk hr
  have HD := Aside0.mk hD
  clear hr hD
  go_enter Tryd.func64, Tryd.ntmps64
  go_wp2_with fail
  refine (qDn kD dg A c L w hT X.out hc HD.out).mono ?_
  rintro e w1 ⟨r, rfl, hr, hb1⟩
  have HR := Aside0.mk hr
  have HB1 := Aside0.mk hb1
  clear hr hb1
  go_wp2_with fail
  go_ret
  exact ⟨by rw [← HR.out]; rfl, HB1.out⟩
set_option maxHeartbeats 8000000 in
set_option maxRecDepth 100000 in
theorem qC2 (base sb : Nat) (v : Value) (L : List S68) (d : ByteArray) (w : World) (h : qAf w 57 base sb v L) (hs : qAh (dgs L) = true) (hn : L.length ≤ 100000) :
    Calls Tryd.prog 38 #[.pointer (some ⟨sb, 0, none⟩), .string d] w fun e w' => e = .returned (.tuple #[.string (getB L d).1, .bool (getB L d).2]) ∧ w = w' := by
  have HS := Aside0.mk hs
  have hpl : posK (dgs L) d ≤ L.length := by have := qBr (dgs L) d; rw [qAj] at this; exact this
  have HLT := Aside0.mk (fun (i : Nat) (h : i < L.length) (hp : i < posK (dgs L) d) => show L[i].f0 ≠ d from by
    have := (qA4 (dgs L) d hs i (by rw [qAj]; exact h)).2 hp
    rw [qAu L i h] at this
    intro e
    rw [e, qAt] at this
    cases this)
  have HIS := Aside0.mk (fun (i : Nat) (h : i < L.length) (hi : isK (dgs L) d = false) => show L[i].f0 ≠ d from by
    intro e
    have : isK (dgs L) d = true := (qBu (dgs L) d hs).2 (by rw [← e, ← qAu L i h]; exact List.getElem_mem _)
    rw [this] at hi
    cases hi)
  have HPT := Aside0.mk (fun (hi : isK (dgs L) d = true) => show ∃ h : posK (dgs L) d < L.length, L[posK (dgs L) d].f0 = d from by
    obtain ⟨h1, h2⟩ := isK_lt hi
    have h3 := h2 h1
    rw [qAj] at h1
    exact ⟨h1, by rw [← qAu L _ h1]; exact h3⟩)
  have HG : Aside0 (getB L d = if isK (dgs L) d = true then ((rd_T68 L (posK (dgs L) d : Nat)).f1, true) else (⟨#[]⟩, false)) := ⟨rfl⟩
  generalize posK (dgs L) d = p at *
  generalize isK (dgs L) d = q at *
  obtain ⟨A, c, rfl, hc, hC⟩ := h.reads
  have HC := Aside0.mk hC
  have hc0 := cell_of_one h.cell
  clear hC h hs
  go_enter Tryd.func38, Tryd.ntmps38
  go_wp2_with fail
  go_loop [6] (fun v6 => ∃ k : Nat, v6 = .int .i64 k ∧ k ≤ L.length ∧ Aside0 (q = true → k ≤ p)) (fun v => L.length - (intOf v).toNat)
  case atStart => exact ⟨0, rfl, by omega, ⟨fun _ => by omega⟩⟩
  case round =>
    obtain ⟨k, rfl, hk, HQ⟩ := hrel
    by_cases hkl : k < L.length
    · have hkc : decide ((k : Int) < (L.length : Int)) = true := by simp; omega
      have hk0 : 0 ≤ (k : Int) := by omega
      obtain ⟨ad, rfl, z0, z1⟩ := at_T68 HC.out (k : Int) hk0 (by omega)
      simp only [Int.toNat_natCast] at z0 z1
      have HX := Aside0.mk (qBa L k hkl)
      have HX2 : Aside0 (k = p → rd_T68 L (p : Nat) = rd_T68 L (k : Int)) := ⟨fun e => by rw [e]⟩
      generalize rd_T68 L (k : Int) = x at *
      obtain ⟨bx, hbx⟩ : ∃ b, (x.f0.toList == d.toList) = b := ⟨_, rfl⟩
      have HBX := Aside0.mk (show (bx = true ↔ x.f0 = d) by rw [← hbx, beq_iff_eq, qAw])
      cases bx with
      | true =>
        have hxd := HBX.out.1 rfl
        have hq : q = true := by
          cases q with
          | true => rfl
          | false => exact absurd (HX.out ▸ hxd) (HIS.out k hkl rfl)
        have hkp : k = p := by
          have h1 := HQ.out hq
          rcases Nat.lt_or_ge k p with h | h
          · exact absurd (HX.out ▸ hxd) (HLT.out k hkl h)
          · omega
        have HR := Aside0.mk (show getB L d = (x.f1, true) by rw [HG.out, if_pos hq, HX2.out hkp])
        clear hxd hq hkp HX HX2 HG
        go_wp2_with fail
        go_ret2
        exact ⟨by rw [HR.out]; rfl, rfl⟩
      | false =>
        have HN := Aside0.mk (show q = true → k + 1 ≤ p from fun hq => by
          have h1 := HQ.out hq
          rcases Nat.lt_or_ge k p with h | h
          · omega
          · have e : k = p := by omega
            obtain ⟨h2, h3⟩ := HPT.out hq
            subst e
            have := HBX.out.2 (by rw [HX.out]; exact h3)
            cases this)
        clear HX HX2 HBX
        go_wp2_with fail
        go_round
        case rel => exact ⟨k + 1, by go_num, by omega, HN⟩
        case measure => simp [intOf]; omega
    · have hkc : decide ((k : Int) < (L.length : Int)) = false := by simp; omega
      have hkn : decide (k < L.length) = false := by simp; omega
      have HR := Aside0.mk (show getB L d = (⟨#[]⟩, false) by
        rw [HG.out, if_neg]
        intro hq
        have h1 := HQ.out hq
        obtain ⟨h2, _⟩ := HPT.out hq
        omega)
      clear HG
      go_wp2_with fail
      go_ret2
      exact ⟨by rw [HR.out]; rfl, rfl⟩
end Go.Proofs.YtbnoihpooeombaaDoor.X

namespace Go.Proofs.YtbnoihpooeombaaDoor.X
open Go.RowKit Go.Proofs.YtbnoihpooeombaaDoorW.PrintWords Go.Proofs.YtbnoihpooeombaaDoorW.PrintLast Go.Proofs.YtbnoihpooeombaaDoorW.PrintMore Go.Proofs.YtbnoihpooeombaaDoor.P
set_option linter.unusedVariables false
set_option linter.unusedSimpArgs false
def loadP (dg : ByteArray → ByteArray) : List S68 → List S68 → Sum (List S68) Int
  | [], L => .inl L
  | x :: xs, L => if (putR L (dg x.f1) x.f1).2 = 0 then loadP dg xs (putL L (dg x.f1) x.f1) else .inr (putR L (dg x.f1) x.f1).2
def loadQ (dg : ByteArray → ByteArray) (bs : List S68) : Sum (List S68) Int := if bs.any (badB dg) = true then .inr 10 else loadP dg bs []
theorem qE5 (L M : List S68) : dgs (L ++ M) = dgs L ++ dgs M := by simp [dgs]
theorem qBg {L : List S68} (d data : ByteArray) (h : qAh (dgs L) = true) : qAh (dgs (putL L d data)) = true := by
  unfold putL
  by_cases c : isK (dgs L) d = true
  · rw [if_pos c]; exact h
  · rw [if_neg c]
    have := qBl (dgs L) d h (eq_false_of_ne_true c)
    have e : dgs (L.take (posK (dgs L) d) ++ ⟨d, data⟩ :: L.drop (posK (dgs L) d)) = (dgs L).take (posK (dgs L) d) ++ d :: (dgs L).drop (posK (dgs L) d) := by
      rw [qE5]
      simp [dgs, List.map_take, List.map_drop]
    rw [e]
    exact this
theorem qDq (L : List S68) (d data : ByteArray) : (putL L d data).length ≤ L.length + 1 := by
  unfold putL
  have := qBr (dgs L) d
  rw [qAj] at this
  split
  · omega
  · simp; omega
theorem qAv {w w1 w2 : World} {sb : Nat} {r : Option Nat} (h : Below w.heap.size w w1) (g : StepB w1 w2 sb r) (hs : w.heap.size ≤ sb) (hr : ∀ k, r = some k → w.heap.size ≤ k) : Below w.heap.size w w2 :=
  ⟨g.os.trans h.os, g.tape.trans h.tape, g.output.trans h.output, Nat.le_trans h.size g.size, fun k hk => (g.block k (Nat.lt_of_lt_of_le hk h.size) (by omega) (fun e => by have := hr k e.symm; omega)).trans (h.block k hk)⟩
theorem qAf.lower {w : World} {t base base' sb : Nat} {v : Value} {L : List S68} (h : qAf w t base sb v L) (hb : base' ≤ base) : qAf w t base' sb v L := ⟨h.cell, qBs h.row hb⟩
def qBq (t : Nat) (dg : ByteArray → ByteArray) (bs : List S68) (w : World) (e : Ending) (w' : World) : Prop :=
  Below w.heap.size w w' ∧ match loadQ dg bs with
  | .inl L => qAh (dgs L) = true ∧ L.length ≤ bs.length ∧ ∃ sb v, e = .returned (.tuple #[.pointer (some ⟨sb, 0, none⟩), .int .i64 0]) ∧ qAf w' t w.heap.size sb v L ∧ w.heap.size ≤ sb
  | .inr n => e = .returned (.tuple #[.pointer none, .int .i64 n])
set_option maxHeartbeats 8000000 in
set_option maxRecDepth 100000 in
theorem qD2 (kD : Nat) (dg : ByteArray → ByteArray) (A : Option Addr) (c : Nat) (bs : List S68) (w : World) (hT : Aside0 (Tabs w)) (hr : Kd.C k68 w A bs.length bs) (hc : bs.length ≤ c) (hn : bs.length ≤ 10000) (hD : ∀ x ∈ bs, sum_Digest.f kD x.f1 = some (dg x.f1)) :
    Calls Tryd.prog 44 #[.slice A bs.length c] w (qBq 91 dg bs w) := by
  have X := Aside0.mk hr
  have HD := Aside0.mk hD
  clear hr hD
  go_enter Tryd.func44, Tryd.ntmps44
  go_wp2_with fail
  refine (qCi kD dg A c bs w hT X.out hc HD.out).mono ?_
  rintro e w1 ⟨rfl, hb1⟩
  have HB1 := Aside0.mk hb1
  clear hb1
  cases hg : bs.any (badB dg) with
  | true =>
    have HQ := Aside0.mk (show loadQ dg bs = .inr 10 by unfold loadQ; rw [if_pos hg])
    clear hg
    go_wp2_with fail
    go_ret2
    unfold qBq
    rw [HQ.out]
    exact ⟨HB1.out, rfl⟩
  | false =>
    have HQ := Aside0.mk (show loadQ dg bs = loadP dg bs [] by unfold loadQ; rw [if_neg (by rw [hg]; decide)])
    clear hg
    go_wp2_with fail
    refine (qB9 w1).mono ?_
    rintro e w2 ⟨rfl, hs2, hb2⟩
    have hsb : w.heap.size ≤ w1.heap.size := HB1.out.size
    have HB2 := Aside0.mk (qAd HB1.out hb2)
    have HS2 := Aside0.mk (hs2.lower hsb)
    clear hs2 hb2 HB1
    generalize w1.heap.size = sb at *
    go_wp2_with fail
    go_loopw [14] (fun v14 wr => ∃ (k : Nat) (v : Value) (L : List S68), v14 = .int .i64 k ∧ k ≤ bs.length ∧ L.length ≤ k ∧ Aside0 (qAh (dgs L) = true) ∧ Aside0 (qAf wr 91 w.heap.size sb v L) ∧ Aside0 (Below w.heap.size w wr) ∧ Aside0 (loadP dg (bs.drop k) L = loadP dg bs [])) (fun a _ => bs.length - (intOf a).toNat)
    case atStart => exact ⟨0, _, [], rfl, by omega, by simp, ⟨rfl⟩, HS2, HB2, ⟨rfl⟩⟩
    case round =>
      obtain ⟨k, v, L, rfl, hk, hL, HR, HS, HB, HP⟩ := hrel
      clear HS2 HB2
      by_cases hkl : k < bs.length
      · have hkc : decide ((k : Int) < (bs.length : Int)) = true := by simp; omega
        have hk0 : 0 ≤ (k : Int) := by omega
        obtain ⟨ad, rfl, z0, z1⟩ := at_T68 (Kd.C_below X.out HB.out) (k : Int) hk0 (by omega)
        simp only [Int.toNat_natCast] at z0 z1
        have HX := Aside0.mk (qBa bs k hkl)
        generalize rd_T68 bs (k : Int) = x at *
        have HDX := Aside0.mk (HD.out x (by rw [HX.out]; exact List.getElem_mem _))
        have hP := HP.out
        rw [List.drop_eq_getElem_cons hkl, ← HX.out, loadP] at hP
        have HP2 := Aside0.mk hP
        clear hP HP HX
        have b3 := qAb (Below.refl wr.heap.size wr) (.cells #[.string x.f0, .string x.f1] 68)
        have HB3 := Aside0.mk (qAd HB.out b3)
        have HS3 := Aside0.mk (HS.out.below b3)
        clear b3 HS HB
        go_wp2_with fail
        clear z0 z1
        generalize wr.alloc (.cells #[.string x.f0, .string x.f1] 68) = W3 at *
        refine (qBm kD w.heap.size sb v L x.f1 (dg x.f1) W3 ⟨Tabs.below hT.out HB3.out⟩ HS3.out HR.out (by omega) HDX.out (qAg HB3.out)).mono ?_
        rintro e w4 ⟨rfl, v', hs4, _, hst4⟩
        have HB4 := Aside0.mk (qAv HB3.out hst4 hsb (fun k hk => qAo HS3.out.row k hk))
        have HS4 := Aside0.mk hs4
        clear hs4 hst4 HS3 HB3 HDX
        by_cases hz : (putR L (dg x.f1) x.f1).2 = 0
        · have hP := HP2.out
          rw [if_pos hz] at hP
          have HP3 := Aside0.mk hP
          have hzc : ((putR L (dg x.f1) x.f1).2 == 0) = true := beq_iff_eq.2 hz
          have hzn : ((putR L (dg x.f1) x.f1).2 != 0) = false := by rw [hz]; rfl
          have HR4 := Aside0.mk (qBg (dg x.f1) x.f1 HR.out)
          have hL4 := qDq L (dg x.f1) x.f1
          clear hP HP2 hz HR
          generalize putL L (dg x.f1) x.f1 = L' at *
          generalize putR L (dg x.f1) x.f1 = R at *
          go_wp2_with fail
          go_roundw
          case rel => exact ⟨k + 1, _, L', by go_num, by omega, by omega, HR4, HS4, HB4, HP3⟩
          case measure => simp [intOf]; omega
        · have hP := HP2.out
          rw [if_neg hz] at hP
          have HP3 := Aside0.mk (HQ.out.trans hP.symm)
          have hzc : ((putR L (dg x.f1) x.f1).2 == 0) = false := beq_eq_false_iff_ne.2 hz
          have hzn : ((putR L (dg x.f1) x.f1).2 != 0) = true := by rw [bne_iff_ne]; exact hz
          clear hP HP2 hz HR HQ
          generalize putR L (dg x.f1) x.f1 = R at *
          go_wp2_with fail
          go_ret2
          unfold qBq
          rw [HP3.out]
          exact ⟨HB4.out, rfl⟩
      · have hkc : decide ((k : Int) < (bs.length : Int)) = false := by simp; omega
        have hkn : decide (k < bs.length) = false := by simp; omega
        have hP := HP.out
        rw [List.drop_of_length_le (by omega), loadP] at hP
        have HP3 := Aside0.mk (HQ.out.trans hP.symm)
        clear hP HP hkl HQ
        go_wp2_with fail
        go_ret2
        unfold qBq
        rw [HP3.out]
        exact ⟨HB.out, HR.out, by omega, sb, v, rfl, HS.out, hsb⟩
end Go.Proofs.YtbnoihpooeombaaDoor.X

namespace Go.Proofs.YtbnoihpooeombaaDoor.X
open Go.RowKit Go.Proofs.YtbnoihpooeombaaDoorW.PrintWords Go.Proofs.YtbnoihpooeombaaDoor.P
set_option linter.unusedVariables false
set_option linter.unusedSimpArgs false
def nextN (h b : Int) : Int := IntKind.u64.wrap ((bits .xor .u64 h (IntKind.u64.wrap b)) * 1099511628211)
def sumL (xs : List Int) (h : Int := 14695981039346656037) : Int := xs.foldl nextN h
theorem qE0 (h b : Int) : sum_Next.f h b = some (nextN h b) := rfl
theorem qDf (h b : Int) : hogsheadref6_Next.f h b = some (nextN h b) := rfl
theorem qD9 (xs : List Int) (hn : xs.length ≤ 9223372036854775807) : ∀ (d : Nat) (k i : Nat) (h : Int), xs.length - i = d → i ≤ xs.length → d < k →
    hogsheadref6_Of.l0 k xs h i = some (sumL (xs.drop i) h) := by
  intro d
  induction d with
  | zero =>
    intro k i h hd hi hk
    obtain ⟨k, rfl⟩ : ∃ m, k = m + 1 := ⟨k - 1, by omega⟩
    simp only [hogsheadref6_Of.l0]
    rw [if_neg (by omega), List.drop_eq_nil_of_le (by omega)]
    rfl
  | succ d ih =>
    intro k i h hd hi hk
    obtain ⟨k, rfl⟩ : ∃ m, k = m + 1 := ⟨k - 1, by omega⟩
    have hlt : i < xs.length := by omega
    simp only [hogsheadref6_Of.l0]
    rw [if_pos (by omega), if_pos (by omega), qDf]
    simp only [Option.bind_some]
    rw [qDc (n := xs.length) (by omega) (by omega) hn, qCj xs i hlt]
    have := ih k (i + 1) (nextN h xs[i]) (by omega) (by omega) (by omega)
    rw [show ((i : Int) + 1) = ((i + 1 : Nat) : Int) by omega, this, List.drop_eq_getElem_cons hlt]
    rfl
theorem qEa (xs : List Int) (hn : xs.length ≤ 9223372036854775807) (k : Nat) (hk : xs.length < k) : hogsheadref6_Of.f k xs = some (sumL xs) := by
  have := qD9 xs hn xs.length k 0 14695981039346656037 (by omega) (by omega) hk
  simpa [hogsheadref6_Of.f] using this
theorem qDg (ls : List (List Int)) (j : Nat) (h : j < ls.length) : rd_L7 ls (j : Int) = ls[j] := by
  simp [rd_L7, List.getD_eq_getElem?_getD, h]
theorem of_l1 (ls : List (List Int)) (hL : ls.length ≤ 9223372036854775807) (j : Nat) (hj : j < ls.length) (xs : List Int) (hn : xs.length ≤ 9223372036854775807) : ∀ (d : Nat) (k k0 i : Nat) (h : Int), xs.length - i = d → i ≤ xs.length → k = k0 + d + 1 →
    sum_Of.l1 k h ls ls.length j xs xs.length i = sum_Of.l0 k0 (sumL (xs.drop i) h) ls ls.length ((j + 1 : Nat) : Int) := by
  intro d
  induction d with
  | zero =>
    intro k k0 i h hd hi hk
    obtain ⟨m, rfl⟩ : ∃ m, k = m + 1 := ⟨k - 1, by omega⟩
    obtain rfl : m = k0 := by omega
    simp only [sum_Of.l1]
    rw [if_neg (by omega), List.drop_eq_nil_of_le (by omega), qDc (n := ls.length) (by omega) (by omega) hL]
    rfl
  | succ d ih =>
    intro k k0 i h hd hi hk
    obtain ⟨m, rfl⟩ : ∃ m, k = m + 1 := ⟨k - 1, by omega⟩
    have hlt : i < xs.length := by omega
    simp only [sum_Of.l1]
    rw [if_pos (by omega), if_pos (by omega), if_pos (by omega), qE0]
    simp only [Option.bind_some]
    rw [qDc (n := xs.length) (by omega) (by omega) hn, qCj xs i hlt]
    have := ih m k0 (i + 1) (nextN h xs[i]) (by omega) (by omega) (by omega)
    rw [show ((i : Int) + 1) = ((i + 1 : Nat) : Int) by omega, this, List.drop_eq_getElem_cons hlt]
    rfl
def sumP (ls : List (List Int)) (h : Int := 14695981039346656037) : Int := ls.foldl (fun h xs => sumL xs h) h
theorem of_l0 (ls : List (List Int)) (hL : ls.length ≤ 9223372036854775807) (hx : ∀ xs ∈ ls, xs.length ≤ 9223372036854775807) : ∀ (d : Nat) (i : Nat) (h : Int), ls.length - i = d → i ≤ ls.length →
    ∃ K, ∀ k, K ≤ k → sum_Of.l0 k h ls ls.length i = some (sumP (ls.drop i) h) := by
  intro d
  induction d with
  | zero =>
    intro i h hd hi
    refine ⟨1, fun k hk => ?_⟩
    obtain ⟨k, rfl⟩ : ∃ m, k = m + 1 := ⟨k - 1, by omega⟩
    simp only [sum_Of.l0]
    rw [if_neg (by omega), List.drop_eq_nil_of_le (by omega)]
    rfl
  | succ d ih =>
    intro i h hd hi
    have hlt : i < ls.length := by omega
    obtain ⟨K, hK⟩ := ih (i + 1) (sumL ls[i] h) (by omega) (by omega)
    refine ⟨K + ls[i].length + 2, fun k hk => ?_⟩
    obtain ⟨k', rfl⟩ : ∃ m, k = m + ls[i].length + 1 + 1 := ⟨k - ls[i].length - 2, by omega⟩
    simp only [sum_Of.l0]
    rw [if_pos (by omega), if_pos (by omega), if_pos (by omega), qDg ls i hlt]
    have := of_l1 ls hL i hlt ls[i] (hx _ (List.getElem_mem hlt)) ls[i].length _ k' 0 h (by omega) (by omega) rfl
    simp only [List.drop_zero, Int.natCast_zero] at this
    rw [this, hK k' (by omega), List.drop_eq_getElem_cons hlt]
    rfl
theorem of_eq (ls : List (List Int)) (hL : ls.length ≤ 9223372036854775807) (hx : ∀ xs ∈ ls, xs.length ≤ 9223372036854775807) : Ev (fun k => sum_Of.f k ls) (sumP ls) := by
  obtain ⟨K, hK⟩ := of_l0 ls hL hx ls.length 0 14695981039346656037 (by omega) (by omega)
  exact ⟨K, fun k hk => by have := hK k hk; simpa [sum_Of.f] using this⟩
theorem qEq (xs : List Int) : sumP [xs] = sumL xs := rfl
def hexP : Nat → Nat → List UInt8
  | 0, _ => []
  | n + 1, u => hexP n (u / 16) ++ [dch (u % 16)]
def hexS (u : Int) : ByteArray := ⟨(hexP 16 u.toNat).toArray⟩
theorem qCc : ∀ n u, (hexP n u).length = n
  | 0, _ => rfl
  | n + 1, u => by simp [hexP, qCc n]
theorem qC8 : ∀ n, hexP n 0 = List.replicate n (dch 0)
  | 0 => rfl
  | n + 1 => by rw [hexP, Nat.zero_div, qC8 n, List.replicate_succ']
theorem qCn : ∀ n u, hexP (n + 1) u = dch (u / 16 ^ n % 16) :: hexP n u
  | 0, u => by simp [hexP]
  | n + 1, u => by
    rw [hexP, qCn n (u / 16), hexP, Nat.div_div_eq_div_mul, Nat.pow_succ, Nat.mul_comm 16]
    rfl
theorem qCk : ∀ n u, 0 < n → u < 16 ^ n → (qAi 16 u).length ≤ n ∧ List.replicate (n - (qAi 16 u).length) (dch 0) ++ qAi 16 u = hexP n u
  | 0, _, h, _ => absurd h (by omega)
  | 1, u, _, hu => by
    rw [qBh (by simpa using hu)]
    have : u % 16 = u := Nat.mod_eq_of_lt (by simpa using hu)
    simp [hexP, this]
  | n + 2, u, _, hu => by
    by_cases h : u < 16
    · rw [qBh h]
      refine ⟨by simp, ?_⟩
      rw [hexP, Nat.div_eq_of_lt h, qC8, Nat.mod_eq_of_lt h]
      rfl
    · have hd : u / 16 < 16 ^ (n + 1) := by
        rw [Nat.div_lt_iff_lt_mul (by omega)]
        calc u < 16 ^ (n + 2) := hu
          _ = 16 ^ (n + 1) * 16 := Nat.pow_succ ..
      obtain ⟨hl, he⟩ := qCk (n + 1) (u / 16) (by omega) hd
      rw [qCf (by omega) (by omega)]
      refine ⟨by simp; omega, ?_⟩
      rw [hexP, ← he, List.length_append, ← List.append_assoc]
      simp
theorem hex_eq (u : Int) (h0 : 0 ≤ u) (h1 : u < 18446744073709551616) : sum_Hex.f u = some (hexS u) := by
  obtain ⟨n, rfl⟩ := Int.eq_ofNat_of_zero_le h0
  obtain ⟨hl, he⟩ := qCk 16 n (by omega) (by omega)
  unfold sum_Hex.f strconv_FormatUint.f
  rw [if_pos ⟨h0, h1, rfl⟩]
  simp only [Option.bind_some, Int.toNat_natCast, qD7]
  have e : wrap64 (16 - ((qAi 16 n).length : Int)) = ((16 - (qAi 16 n).length : Nat) : Int) := by unfold wrap64; omega
  rw [e]
  unfold strings_Repeat.f
  have e1 : (⟨#[48]⟩ : ByteArray).size = 1 := rfl
  rw [if_pos ⟨by omega, by omega, by rw [e1, Int.toNat_natCast]; omega⟩]
  simp only [Option.bind_some, Int.toNat_natCast]
  rw [qB1, qD7, if_pos (by simp; omega), qEn, he]
  rfl
theorem bt_hex (j : Nat) (h : j < 16) : bt (⟨#[48, 49, 50, 51, 52, 53, 54, 55, 56, 57, 97, 98, 99, 100, 101, 102]⟩ : ByteArray) (j : Int) = ((dch j).toNat : Int) := by
  have : ∀ i : Fin 16, bt (⟨#[48, 49, 50, 51, 52, 53, 54, 55, 56, 57, 97, 98, 99, 100, 101, 102]⟩ : ByteArray) (i.val : Int) = ((dch i.val).toNat : Int) := by decide +kernel
  exact this ⟨j, h⟩
theorem qDy (u : Nat) (hu : u < 18446744073709551616) : ∀ (n k : Nat) (acc : List Int), n ≤ 16 → acc.length + n ≤ 16 → n < k →
    hogsheadref6_Hex.l0 k u acc ((n : Int) - 1) = some (strOfNums (acc ++ (hexP n u).map fun b => (b.toNat : Int))) := by
  intro n
  induction n with
  | zero =>
    intro k acc hn ha hk
    obtain ⟨k, rfl⟩ : ∃ m, k = m + 1 := ⟨k - 1, by omega⟩
    simp only [hogsheadref6_Hex.l0]
    rw [if_neg (by omega)]
    simp [hexP]
  | succ n ih =>
    intro k acc hn ha hk
    obtain ⟨k, rfl⟩ : ∃ m, k = m + 1 := ⟨k - 1, by omega⟩
    have e0 : ((n + 1 : Nat) : Int) - 1 = (n : Int) := by omega
    have e1 : wrap64 (4 * (n : Int)) = ((4 * n : Nat) : Int) := by unfold wrap64; omega
    have e2 : shr .u64 (u : Int) ((4 * n : Nat) : Int) = ((u / 16 ^ n : Nat) : Int) := by
      unfold shr
      have hb : IntKind.u64.bits = 64 := rfl
      have h2 : (2 : Int) ^ (4 * n) = ((16 ^ n : Nat) : Int) := by
        have : (2 : Nat) ^ (4 * n) = 16 ^ n := by rw [Nat.pow_mul]
        rw [← this]; simp
      rw [hb, Int.toNat_natCast, Nat.min_eq_left (by omega), h2]
      omega
    have hlt : u / 16 ^ n < 18446744073709551616 := Nat.lt_of_le_of_lt (Nat.div_le_self _ _) hu
    have e3 := and15 _ hlt
    simp only [hogsheadref6_Hex.l0]
    rw [e0, if_pos (by omega), e1, if_pos (by omega), e2, e3, if_pos (by omega), if_pos (by omega), if_pos (by omega), bt_hex _ (by omega)]
    have e4 : wrap64 ((n : Int) - 1) = (n : Int) - 1 := by unfold wrap64; omega
    rw [e4]
    rw [ih k _ (by omega) (by simp; omega) (by omega), qCn, List.map_cons, List.append_assoc]
    rfl
theorem qDz (u : Int) (h0 : 0 ≤ u) (h1 : u < 18446744073709551616) (k : Nat) (hk : 17 ≤ k) : hogsheadref6_Hex.f k u = some (hexS u) := by
  obtain ⟨n, rfl⟩ := Int.eq_ofNat_of_zero_le h0
  have := qDy n (by omega) 16 k [] (by omega) (by simp) (by omega)
  unfold hogsheadref6_Hex.f
  rw [List.nil_append, qDx] at this
  exact this
theorem qB8 (h b : Int) : 0 ≤ nextN h b ∧ nextN h b < 18446744073709551616 := by
  unfold nextN
  rw [IntKind.wrap_u64]
  omega
theorem qDw (xs : List Int) : ∀ h : Int, 0 ≤ h → h < 18446744073709551616 → 0 ≤ sumL xs h ∧ sumL xs h < 18446744073709551616 := by
  induction xs with
  | nil => exact fun h h0 h1 => ⟨h0, h1⟩
  | cons x xs ih => exact fun h h0 h1 => ih _ (qB8 h x).1 (qB8 h x).2
theorem sumL_range' (xs : List Int) : 0 ≤ sumL xs ∧ sumL xs < 18446744073709551616 := qDw xs _ (by omega) (by omega)
theorem qEi (s : ByteArray) (hs : s.size ≤ 9223372036854775807) : Ev (fun k => sum_Digest.f k s) (hexS (sumL (qAm s))) := by
  obtain ⟨K, hK⟩ := of_eq [qAm s] (by simp) (by intro xs hx; simp at hx; subst hx; rw [qAl]; exact hs)
  refine ⟨K, fun k hk => ?_⟩
  have hr := sumL_range' (qAm s)
  show sum_Digest.f k s = _
  unfold sum_Digest.f
  have hK := hK k hk
  simp only at hK
  rw [if_pos hs, hK, qEq]
  simp only [Option.bind_some]
  exact hex_eq _ hr.1 hr.2
theorem qCr (s : ByteArray) (hs : s.size ≤ 9223372036854775807) : Ev (fun k => hogsheadref6_Digest.f k s) (hexS (sumL (qAm s))) := by
  refine ⟨s.size + 18, fun k hk => ?_⟩
  have hr := sumL_range' (qAm s)
  show hogsheadref6_Digest.f k s = _
  unfold hogsheadref6_Digest.f
  rw [if_pos hs, qEa _ (by rw [qAl]; exact hs) k (by rw [qAl]; omega)]
  simp only [Option.bind_some]
  exact qDz _ hr.1 hr.2 k (by omega)
theorem qDo (u : Int) : (hexS u).toList = hexP 16 u.toNat := by
  unfold hexS
  have h : (⟨(hexP 16 u.toNat).toArray⟩ : ByteArray).toList = ((hexP 16 u.toNat).toArray).toList := by
    exact Lib.toList_data _
  rw [h]
end Go.Proofs.YtbnoihpooeombaaDoor.X

namespace Go.Proofs.YtbnoihpooeombaaDoor.X
open Go.RowKit Go.Proofs.YtbnoihpooeombaaDoorW.PrintWords Go.Proofs.YtbnoihpooeombaaDoorW.PrintLast Go.Proofs.YtbnoihpooeombaaDoorW.PrintMore Go.Proofs.YtbnoihpooeombaaDoor.P
set_option linter.unusedVariables false
set_option linter.unusedSimpArgs false
theorem qCv (key other : ByteArray) : isK [key] other = decide (other = key) := by
  rw [Bool.eq_iff_iff, qBu [key] other rfl, decide_eq_true_eq, List.mem_singleton]
theorem qEc (key : ByteArray) : posK [key] key = 0 := by
  have := (isK_lt (by rw [qCv]; simp : isK [key] key = true)).1
  simpa using this
theorem qD0 {α : Type} {d : Kd α} {w : World} {g t : Nat} {cs : List Value} {x : α} (h : w.heap[g]? = some (.cells cs.toArray t (0, 0))) (hK : d.K w x cs) : d.C w (some ⟨g, 0, none⟩) 1 [x] := by
  refine ⟨rfl, by omega, fun _ => ⟨⟨g, 0, none⟩, rfl, fun j p hj => ?_⟩⟩
  cases j with
  | zero =>
    cases hj
    refine ⟨cs, d.K_len hK, hK, fun i u hu => ?_⟩
    rw [Nat.zero_mul, Nat.zero_add]
    exact qCu h _ rfl i u hu
  | succ j => simp at hj
def digD (s : ByteArray) : ByteArray := hexS (sumL (qAm s))
theorem dig_Ev (s : ByteArray) (hs : s.size ≤ 9223372036854775807) : Ev (fun k => sum_Digest.f k s) (digD s) := qEi s hs
theorem qEb (s : ByteArray) (hs : s.size ≤ 9223372036854775807) : Ev (fun k => hogsheadref6_Digest.f k s) (digD s) := qCr s hs
def digA : ByteArray := ⟨#[97, 102, 54, 51, 100, 99, 52, 99, 56, 54, 48, 49, 101, 99, 56, 99]⟩
theorem qE4 : digD ⟨#[97]⟩ = digA := by
  have h2 : hexP 16 (sumL (qAm ⟨#[97]⟩)).toNat = [97, 102, 54, 51, 100, 99, 52, 99, 56, 54, 48, 49, 101, 99, 56, 99] := by decide +kernel
  unfold digD hexS digA
  rw [h2]
theorem qE3 : digD ⟨#[]⟩ ≠ ⟨#[120]⟩ := by
  intro h
  have h1 : (digD ⟨#[]⟩).toList.length = 16 := by unfold digD; rw [qDo, qCc]
  rw [h] at h1
  have : (⟨#[120]⟩ : ByteArray).toList = [120] := Lib.toList_data _
  rw [this] at h1
  cases h1
def blobA : S68 := ⟨digA, ⟨#[97]⟩⟩
theorem qDt (d : ByteArray) : isK (dgs []) d = false := by
  unfold isK
  rw [decide_eq_false_iff_not]
  rintro ⟨h, _⟩
  exact absurd h (by simp [dgs])
theorem putA1 : putL [] digA ⟨#[97]⟩ = [blobA] ∧ putR [] digA ⟨#[97]⟩ = (digA, 0) := by
  refine ⟨?_, ?_⟩
  · unfold putL
    rw [if_neg (by rw [qDt]; decide)]
    simp [blobA]
  · unfold putR
    rw [if_neg (fun h => by rw [qDt] at h; exact absurd h.1 (by decide))]
theorem isA : isK (dgs [blobA]) digA = true ∧ posK (dgs [blobA]) digA = 0 := ⟨qCv digA digA ▸ (by simp [dgs, blobA, qCv]), qEc digA⟩
theorem putA2 : putL [blobA] digA ⟨#[97]⟩ = [blobA] ∧ putR [blobA] digA ⟨#[97]⟩ = (digA, 0) := by
  refine ⟨?_, ?_⟩
  · unfold putL
    rw [if_pos isA.1]
  · unfold putR
    rw [if_neg]
    rintro ⟨_, h⟩
    rw [isA.2] at h
    exact h rfl
theorem getA : getB [blobA] digA = (⟨#[97]⟩, true) := by
  unfold getB
  rw [if_pos isA.1, isA.2]
  rfl
theorem badA : loadQ digD [⟨⟨#[120]⟩, ⟨#[]⟩⟩] = .inr 10 := by
  unfold loadQ
  rw [if_pos]
  rw [List.any_cons, List.any_nil, Bool.or_false]
  unfold badB
  rw [Bool.not_eq_true']
  rw [beq_eq_false_iff_ne]
  intro h
  exact qE3 ((qAw _ _).1 h).symm
set_option maxHeartbeats 8000000 in
set_option maxRecDepth 100000 in
theorem qBp (kD : Nat) (w : World) (hT : Aside0 (Tabs w)) (h1 : sum_Digest.f kD ⟨#[97]⟩ = some digA) (h2 : sum_Digest.f kD ⟨#[]⟩ = some (digD ⟨#[]⟩)) :
    Calls Tryd.prog 33 #[] w fun e w' => e = .returned (.bool true) ∧ Below w.heap.size w w' := by
  have H1 := Aside0.mk h1
  have H2 := Aside0.mk h2
  clear h1 h2
  go_enter Tryd.func33, Tryd.ntmps33
  go_wp2_with fail
  refine (qB9 w).mono ?_
  rintro e w1 ⟨rfl, hs1, hb1⟩
  have HB1 := Aside0.mk hb1
  have HS1 := Aside0.mk hs1
  clear hs1 hb1
  go_wp2_with fail
  refine (qBm kD w.heap.size w.heap.size _ [] ⟨#[97]⟩ digA w1 ⟨Tabs.below hT.out HB1.out⟩ HS1.out rfl (by simp) H1.out (qAg HB1.out)).mono ?_
  rw [putA1.1, putA1.2]
  rintro e w2 ⟨rfl, v2, hs2, _, hst2⟩
  have HB2 := Aside0.mk (qAv HB1.out hst2 (Nat.le_refl _) (fun k hk => by cases hk))
  have HS2 := Aside0.mk hs2
  clear hs2 hst2 HS1 HB1
  dsimp only
  go_wp2_with fail
  refine (qBm kD w.heap.size w.heap.size v2 [blobA] ⟨#[97]⟩ digA w2 ⟨Tabs.below hT.out HB2.out⟩ HS2.out rfl (by simp) H1.out (qAg HB2.out)).mono ?_
  rw [putA2.1, putA2.2]
  rintro e w3 ⟨rfl, v3, hs3, _, hst3⟩
  have HB3 := Aside0.mk (qAv HB2.out hst3 (Nat.le_refl _) (fun k hk => qAo HS2.out.row k hk))
  have HS3 := Aside0.mk hs3
  clear hs3 hst3 HS2 HB2
  dsimp only
  go_wp2_with fail
  refine (qCd w.heap.size w.heap.size v3 [blobA] digA w3 HS3.out rfl (by simp)).mono ?_
  rw [getA]
  rintro e w4 ⟨rfl, hb4⟩
  have HB4 := Aside0.mk (qAd HB3.out hb4)
  have HS4 := Aside0.mk (HS3.out.below hb4)
  clear hb4 HS3 HB3
  dsimp only
  have b5 := qAb (Below.refl w4.heap.size w4) (.cells #[.string ⟨#[120]⟩, .string ⟨#[]⟩] 68)
  have HB5 := Aside0.mk (qAd HB4.out b5)
  have HS5 := Aside0.mk (HS4.out.below b5)
  have HN5 := Aside0.mk (qAq w4 (.cells #[.string ⟨#[120]⟩, .string ⟨#[]⟩] 68))
  clear b5 HB4 HS4
  go_wp2_with fail
  generalize w4.alloc (.cells #[.string ⟨#[120]⟩, .string ⟨#[]⟩] 68) = W5 at *
  have HL := Aside0.mk (qD2 kD digD (some ⟨w4.heap.size, 0, none⟩) 1 [⟨⟨#[120]⟩, ⟨#[]⟩⟩] W5 ⟨Tabs.below hT.out HB5.out⟩ (qD0 (d := k68) HN5.out (k68_mk W5 ⟨⟨#[120]⟩, ⟨#[]⟩⟩)) (Nat.le_refl _) (by simp) (fun x hx => by rw [List.mem_singleton.1 hx]; exact H2.out))
  obtain ⟨HL⟩ := HL
  simp only [List.length_singleton] at HL
  refine HL.mono ?_
  clear HL
  intro e w6 hp
  unfold qBq at hp
  rw [badA] at hp
  obtain ⟨hb6, rfl⟩ := hp
  have HB6 := Aside0.mk (qAd HB5.out hb6)
  have HS6 := Aside0.mk (HS5.out.below hb6)
  clear hb6 HB5 HS5 HN5
  have hda : (digA.toList == [97, 102, 54, 51, 100, 99, 52, 99, 56, 54, 48, 49, 101, 99, 56, 99]) = true := by
    rw [beq_iff_eq]; exact Lib.toList_data _
  have hdd : (digA.toList == digA.toList) = true := by simp
  go_wp2_with (go_at_call 40; refine (qCa w.heap.size w.heap.size v3 [blobA] w6 HS6.out).mono ?_; rintro e w7 ⟨rfl, rfl⟩)
  go_ret
  exact ⟨rfl, HB6.out⟩
end Go.Proofs.YtbnoihpooeombaaDoor.X

namespace Go.Proofs.YtbnoihpooeombaaDoor.P
open Go.Proofs.YtbnoihpooeombaaDoor.X
open Go.RowKit Go.Proofs.YtbnoihpooeombaaDoorW.PrintWords Go.Proofs.YtbnoihpooeombaaDoorW.PrintLast Go.Proofs.YtbnoihpooeombaaDoorW.PrintMore
set_option linter.unusedVariables false
set_option linter.unusedSimpArgs false
theorem eqA68 (d : Nat) (w : World) (x0 y0 : ByteArray) (x1 y1 : ByteArray) :
    (Op.equalIn (d + 2) 68 (.agg #[.string x0, .string x1]) (.agg #[.string y0, .string y1])).run Tryd.prog w = .ok (x0.toList == y0.toList && (x1.toList == y1.toList)) w := by
  refine eqA_of Tryd.underlying68 (by kernel_rfl) ?_
  refine qEv (by rfl) (by go_simp; rfl) (by go_simp; rfl) (by go_simp) ?_
  exact qEu (by rfl) (by go_simp; rfl) (by go_simp; rfl) (by go_simp)
end Go.Proofs.YtbnoihpooeombaaDoor.P

namespace Go.Proofs.YtbnoihpooeombaaDoor.P
open Go.Proofs.YtbnoihpooeombaaDoor.X
open Go.RowKit Go.Proofs.YtbnoihpooeombaaDoorW.PrintWords Go.Proofs.YtbnoihpooeombaaDoorW.PrintLast Go.Proofs.YtbnoihpooeombaaDoorW.PrintMore
set_option linter.unusedVariables false
set_option linter.unusedSimpArgs false
attribute [local go_sem high] eqA68
def hogsheadlaw0_SameBlobs.l0 : Nat → List (S68) → List (S68) → Int → Option (Bool)
 | 0, _, _, _ => none
 | k + 1, x0, x1, x5 => if x5 < (x0.length : Int) then (if 0 ≤ x5 then (if x5 < (x1.length : Int) then (if (!((((rd_T68 x0 x5).f0).toList) == (((rd_T68 x1 x5).f0).toList)) || (!((((rd_T68 x0 x5).f1).toList) == (((rd_T68 x1 x5).f1).toList)))) = true then (some false) else (hogsheadlaw0_SameBlobs.l0 k x0 x1 (wrap64 (x5 + 1)))) else (none)) else (none)) else (some true)
def hogsheadlaw0_SameBlobs.f (k : Nat) (l0 : List (S68)) (l1 : List (S68)) : Option (Bool) := if (l0.length : Int) = (l1.length : Int) then (hogsheadlaw0_SameBlobs.l0 k l0 l1 0) else (some false)
set_option maxHeartbeats 8000000 in
set_option maxRecDepth 100000 in
theorem hogsheadlaw0_SameBlobs.calls (k : Nat) (A0 : Option Addr) (c0 : Nat) (l0 : List (S68)) (A1 : Option Addr) (c1 : Nat) (l1 : List (S68)) (r : Bool) (w : World) (hr0 : Kd.C k68 w A0 l0.length l0) (hc0 : l0.length ≤ c0) (hr1 : Kd.C k68 w A1 l1.length l1) (hc1 : l1.length ≤ c1) (h : hogsheadlaw0_SameBlobs.f k l0 l1 = some r) :
  Calls Tryd.prog 41 #[.slice A0 l0.length c0, .slice A1 l1.length c1] w fun e w' => e = .returned (.bool r) ∧ Drawn0 w w' := by
 have hu68 := Tryd.underlying68
 have HR0 := Aside0.mk hr0
 have HC0 := Aside0.mk hc0
 clear hr0 hc0
 have HR1 := Aside0.mk hr1
 have HC1 := Aside0.mk hc1
 clear hr1 hc1
 have H : (if (l0.length : Int) = (l1.length : Int) then (hogsheadlaw0_SameBlobs.l0 k l0 l1 0) else (some false)) = some r := h
 clear h
 by_cases c3 : (l0.length : Int) = (l1.length : Int)
 ·rw [if_pos c3] at H
  have c3b0 : ((l0.length : Int) == (l1.length : Int)) = true := beq_iff_eq.mpr c3
  have c3b1 : ((l0.length : Int) != (l1.length : Int)) = false := bne_eq_false_iff_eq.mpr c3
  have c3b2 : (l0.length == l1.length) = true := by first | simpa using c3 | (simp at c3 ⊢; omega)
  clear c3
  have H' := Aside0.mk H
  clear H
  go_enter Tryd.func41, Tryd.ntmps41
  go_wp2
  repeat (go_quiet (fail); try go_wp2)
  go_loopg [5] k (fun kq v5 w' => ∃ (x5_1 : Int), v5 = .int .i64 x5_1 ∧ Aside0 (hogsheadlaw0_SameBlobs.l0 kq l0 l1 x5_1 = some r) ∧ Aside0 (kq ≤ k) ∧ Drawn0 w w')
  case atStart => exact ⟨(0), (by first | rfl | (simp; done) | (simp [*]; done) | exact congrArg Value.bool (nil_ne _) | exact congrArg Value.bool (nil_eq _) | exact congrArg Value.bool (nil_ne' _)), H', ⟨Nat.le_refl _⟩, by repeat (first | exact Drawn0.refl _ | apply Drawn0.step)⟩
  case round =>
   clear H'
   try clear c1
   try clear p2
   try clear c3
   try clear c3b0
   try clear c3b1
   try clear c3b2
   obtain ⟨x5_1, rfl, HA, HK1, ⟨m1, rfl⟩⟩ := hrel
   cases gk with
   | zero => exact absurd HA.out (by simp [hogsheadlaw0_SameBlobs.l0])
   | succ k1 =>
    have H := HA.out
    clear HA
    simp only [hogsheadlaw0_SameBlobs.l0] at H
    by_cases c4 : x5_1 < (l0.length : Int)
    ·rw [if_pos c4] at H
     have c4b0 : decide (x5_1 < (l0.length : Int)) = true := decide_eq_true c4
     clear c4
     by_cases c5 : 0 ≤ x5_1
     ·rw [if_pos c5] at H
      have c5b0 : decide (0 ≤ x5_1) = true := decide_eq_true c5
      clear c5
      by_cases c6 : x5_1 < (l1.length : Int)
      ·rw [if_pos c6] at H
       have c6b0 : decide (x5_1 < (l1.length : Int)) = true := decide_eq_true c6
       clear c6
       by_cases c7 : (!((((rd_T68 l0 x5_1).f0).toList) == (((rd_T68 l1 x5_1).f0).toList)) || (!((((rd_T68 l0 x5_1).f1).toList) == (((rd_T68 l1 x5_1).f1).toList)))) = true
       ·rw [if_pos c7] at H
        have c7b0 : (!((((rd_T68 l0 x5_1).f0).toList) == (((rd_T68 l1 x5_1).f0).toList)) || (!((((rd_T68 l0 x5_1).f1).toList) == (((rd_T68 l1 x5_1).f1).toList)))) = true := c7
        clear c7
        obtain rfl := Option.some.inj H
        have p531 : 0 ≤ (x5_1 : Int) := of_decide_eq_true (by first | (with_reducible assumption) | assumption)
        have q531 : x5_1 < (l0.length : Int) := of_decide_eq_true (by first | (with_reducible assumption) | assumption)
        obtain ⟨ad531, e531, hx531_0, hx531_1⟩ := at_T68 HR0.out x5_1 p531 q531
        cases e531
        replace p531 := eq_true p531
        replace q531 := eq_true q531
        have p532 : 0 ≤ (x5_1 : Int) := of_decide_eq_true (by first | (with_reducible assumption) | assumption)
        have q532 : x5_1 < (l1.length : Int) := of_decide_eq_true (by first | (with_reducible assumption) | assumption)
        obtain ⟨ad532, e532, hx532_0, hx532_1⟩ := at_T68 HR1.out x5_1 p532 q532
        cases e532
        replace p532 := eq_true p532
        replace q532 := eq_true q532
        go_wp2
        repeat (go_quiet (fail); try go_wp2)
        go_ret
        exact ⟨by first | rfl | (simp; done) | (simp [*]; done), by repeat (first | exact Drawn0.refl _ | apply Drawn0.step)⟩
       ·rw [if_neg c7] at H
        have c7b0 : (!((((rd_T68 l0 x5_1).f0).toList) == (((rd_T68 l1 x5_1).f0).toList)) || (!((((rd_T68 l0 x5_1).f1).toList) == (((rd_T68 l1 x5_1).f1).toList)))) = false := by simpa using c7
        clear c7
        have H' := Aside0.mk H
        clear H
        have p531 : 0 ≤ (x5_1 : Int) := of_decide_eq_true (by first | (with_reducible assumption) | assumption)
        have q531 : x5_1 < (l0.length : Int) := of_decide_eq_true (by first | (with_reducible assumption) | assumption)
        obtain ⟨ad531, e531, hx531_0, hx531_1⟩ := at_T68 HR0.out x5_1 p531 q531
        cases e531
        replace p531 := eq_true p531
        replace q531 := eq_true q531
        have p532 : 0 ≤ (x5_1 : Int) := of_decide_eq_true (by first | (with_reducible assumption) | assumption)
        have q532 : x5_1 < (l1.length : Int) := of_decide_eq_true (by first | (with_reducible assumption) | assumption)
        obtain ⟨ad532, e532, hx532_0, hx532_1⟩ := at_T68 HR1.out x5_1 p532 q532
        cases e532
        replace p532 := eq_true p532
        replace q532 := eq_true q532
        go_wp2
        repeat (go_quiet (fail); try go_wp2)
        go_roundg k1
        case measure => have := HK1.out; omega
        case rel => exact ⟨(wrap64 (x5_1 + 1)), (by first | rfl | (simp; done) | (simp [*]; done) | exact congrArg Value.bool (nil_ne _) | exact congrArg Value.bool (nil_eq _) | exact congrArg Value.bool (nil_ne' _)), H', ⟨by have := HK1.out; omega⟩, by repeat (first | exact Drawn0.refl _ | apply Drawn0.step)⟩
      ·rw [if_neg c6] at H
       exact absurd H (by simp)
     ·rw [if_neg c5] at H
      exact absurd H (by simp)
    ·rw [if_neg c4] at H
     have c4b0 : decide (x5_1 < (l0.length : Int)) = false := decide_eq_false c4
     clear c4
     obtain rfl := Option.some.inj H
     go_wp2
     repeat (go_quiet (fail); try go_wp2)
     go_ret
     exact ⟨by first | rfl | (simp; done) | (simp [*]; done), by repeat (first | exact Drawn0.refl _ | apply Drawn0.step)⟩
 ·rw [if_neg c3] at H
  have c3b0 : ((l0.length : Int) == (l1.length : Int)) = false := beq_eq_false_iff_ne.mpr c3
  have c3b1 : ((l0.length : Int) != (l1.length : Int)) = true := bne_iff_ne.mpr c3
  have c3b2 : (l0.length == l1.length) = false := by first | simpa using c3 | (simp at c3 ⊢; omega)
  obtain rfl := Option.some.inj H
  go_enter Tryd.func41, Tryd.ntmps41
  go_wp2
  repeat (go_quiet (fail); try go_wp2)
  go_ret
  exact ⟨by first | rfl | (simp; done) | (simp [*]; done), by repeat (first | exact Drawn0.refl _ | apply Drawn0.step)⟩
end Go.Proofs.YtbnoihpooeombaaDoor.P

namespace Go.Proofs.YtbnoihpooeombaaDoor.X
open Go.RowKit Go.Proofs.YtbnoihpooeombaaDoorW.PrintWords Go.Proofs.YtbnoihpooeombaaDoor.P
set_option linter.unusedVariables false
set_option linter.unusedSimpArgs false
theorem qCz (a : List S68) (hn : a.length ≤ 1000000) : ∀ (d i : Nat), a.length - i = d → i ≤ a.length → Ev (fun k => hogsheadlaw0_SameBlobs.l0 k a a (i : Int)) true := by
  intro d
  induction d with
  | zero =>
    intro i hd hi
    refine ⟨1, fun k hk => ?_⟩
    obtain ⟨k, rfl⟩ : ∃ m, k = m + 1 := ⟨k - 1, by omega⟩
    simp only [hogsheadlaw0_SameBlobs.l0]
    rw [if_neg (by omega)]
  | succ d ih =>
    intro i hd hi
    obtain ⟨K, hK⟩ := ih (i + 1) (by omega) (by omega)
    refine ⟨K + 1, fun k hk => ?_⟩
    obtain ⟨k, rfl⟩ : ∃ m, k = m + 1 := ⟨k - 1, by omega⟩
    simp only [hogsheadlaw0_SameBlobs.l0]
    rw [if_pos (by omega), if_pos (by omega), if_pos (by omega), if_neg (by simp), wrap_i i a.length (by omega) (by omega)]
    have := hK k (by omega)
    simp only at this
    exact this
theorem qBf (a : List S68) (hn : a.length ≤ 1000000) : Ev (fun k => hogsheadlaw0_SameBlobs.f k a a) true := by
  obtain ⟨K, hK⟩ := qCz a hn a.length 0 (by omega) (by omega)
  refine ⟨K, fun k hk => ?_⟩
  show hogsheadlaw0_SameBlobs.f k a a = _
  unfold hogsheadlaw0_SameBlobs.f
  rw [if_pos rfl]
  exact hK k hk
end Go.Proofs.YtbnoihpooeombaaDoor.X

namespace Go.Proofs.YtbnoihpooeombaaDoor.P
open Go.Proofs.YtbnoihpooeombaaDoor.X
open Go.RowKit Go.Proofs.YtbnoihpooeombaaDoorW.PrintWords Go.Proofs.YtbnoihpooeombaaDoorW.PrintLast Go.Proofs.YtbnoihpooeombaaDoorW.PrintMore
set_option linter.unusedVariables false
set_option linter.unusedSimpArgs false
def hogsheadlaw0_Num.f (a0 : Int) : Option (Int) := some a0
set_option maxHeartbeats 8000000 in
set_option maxRecDepth 100000 in
theorem hogsheadlaw0_Num.calls (a0 : Int) (r : Int) (w : World) (h : hogsheadlaw0_Num.f a0 = some r) :
  Calls Tryd.prog 20 #[.int .i64 a0] w fun e w' => e = .returned (.int .i64 r) ∧ Drawn0 w w' := by
 have H : (some a0) = some r := h
 clear h
 obtain rfl := Option.some.inj H
 go_enter Tryd.func20, Tryd.ntmps20
 go_wp2
 go_ret
 exact ⟨by first | rfl | (simp; done) | (simp [*]; done), by repeat (first | exact Drawn0.refl _ | apply Drawn0.step)⟩
end Go.Proofs.YtbnoihpooeombaaDoor.P

namespace Go.Proofs.YtbnoihpooeombaaDoor.X
open Go.RowKit Go.Proofs.YtbnoihpooeombaaDoorW.PrintWords Go.Proofs.YtbnoihpooeombaaDoorW.PrintLast Go.Proofs.YtbnoihpooeombaaDoorW.PrintMore Go.Proofs.YtbnoihpooeombaaDoor.P
set_option linter.unusedVariables false
set_option linter.unusedSimpArgs false
theorem ev_all {α : Type} (f : Nat → α → Option α) (g : α → α) : ∀ l : List α, (∀ x ∈ l, Ev (fun k => f k x) (g x)) → ∃ K, ∀ k, K ≤ k → ∀ x ∈ l, f k x = some (g x)
  | [], _ => ⟨0, fun _ _ x hx => by cases hx⟩
  | a :: l, h => by
    obtain ⟨K1, h1⟩ := h a List.mem_cons_self
    obtain ⟨K2, h2⟩ := ev_all f g l (fun x hx => h x (List.mem_cons_of_mem _ hx))
    refine ⟨K1 + K2, fun k hk x hx => ?_⟩
    rcases List.mem_cons.1 hx with rfl | hx
    · exact h1 k (by omega)
    · exact h2 k (by omega) x hx
end Go.Proofs.YtbnoihpooeombaaDoor.X

namespace Go.Proofs.YtbnoihpooeombaaDoor.P
open Go.Proofs.YtbnoihpooeombaaDoor.X
open Go.RowKit Go.Proofs.YtbnoihpooeombaaDoorW.PrintWords Go.Proofs.YtbnoihpooeombaaDoorW.PrintLast Go.Proofs.YtbnoihpooeombaaDoorW.PrintMore
set_option linter.unusedVariables false
set_option linter.unusedSimpArgs false
def hogsheadlaw0_OverBlobs.l0 : Nat → List (S68) → Int → Option (Unit)
 | 0, _, _ => none
 | k + 1, x0, x2 => if x2 < (x0.length : Int) then (if 0 ≤ x2 then (hogsheadlaw0_OverBlobs.l0 k (x0.set (x2 : Int).toNat (⟨(⟨#[111, 118, 101, 114]⟩ : ByteArray), (⟨#[]⟩ : ByteArray)⟩ : S68)) (wrap64 (x2 + 1))) else (none)) else (if x0.length < 4398046511104 then (some ()) else (none))
def hogsheadlaw0_OverBlobs.f (k : Nat) (l0 : List (S68)) : Option (Unit) := hogsheadlaw0_OverBlobs.l0 k l0 0
set_option maxHeartbeats 8000000 in
set_option maxRecDepth 100000 in
theorem hogsheadlaw0_OverBlobs.calls (k : Nat) (P0_ : Nat → Prop) (u9000_ : Value) (l0 : List (S68)) (w0 w : World) (hB : Below w0.heap.size w0 w) (ho0 : Kd.R k68 68 w w0.heap.size P0_ u9000_ l0) (h : hogsheadlaw0_OverBlobs.f k l0 = some ()) :
  Calls Tryd.prog 42 #[u9000_] w fun e w' => e = .returned (.tuple #[]) ∧ Below w0.heap.size w0 w' ∧ Kept w w' (fun k_ => P0_ k_) := by
 have hu68 := Tryd.underlying68
 have HO0 := Aside0.mk (show Kd.R k68 68 w w0.heap.size (fun k_ => (P0_ k_ ∨ w.heap.size ≤ k_)) u9000_ l0 from Kd.R_mono ho0 (fun k_ hk => (.inl hk)))
 have HK := Aside0.mk (Kept.refl w (fun k_ => P0_ k_))
 have HW0 := Aside0.mk hB.size
 have HB := Aside0.mk hB
 clear hB
 have H : (hogsheadlaw0_OverBlobs.l0 k l0 0) = some () := h
 clear h
 have H' := Aside0.mk H
 clear H
 go_enter Tryd.func42, Tryd.ntmps42
 go_wp2
 go_loopg [2] k (fun kq v2 w' => ∃ (x0_1 : List (S68)) (x2_1 : Int), v2 = .int .i64 x2_1 ∧ Aside0 (hogsheadlaw0_OverBlobs.l0 kq x0_1 x2_1 = some ()) ∧ Aside0 (kq ≤ k) ∧ Aside0 (Kd.R k68 68 w' w0.heap.size (fun k_ => (P0_ k_ ∨ w.heap.size ≤ k_)) u9000_ x0_1) ∧ Aside0 (Kept w w' (fun k_ => P0_ k_)) ∧ Aside0 (Below w0.heap.size w0 w'))
 case atStart => exact ⟨(l0), (0), (by first | rfl | (simp; done) | (simp [*]; done) | exact congrArg Value.bool (nil_ne _) | exact congrArg Value.bool (nil_eq _) | exact congrArg Value.bool (nil_ne' _)), H', ⟨Nat.le_refl _⟩, ⟨by (with_reducible repeat (first | apply Kd.R_alloc | apply Kd.R_drewN | apply Kd.R_drew)); exact HO0.out⟩, ⟨by repeat (first | (with_reducible first | exact HK.out | apply Kept.alloc | apply Kept.drewN | apply Kept.drew) | exact HK.out)⟩, ⟨by repeat (first | (with_reducible first | exact HB.out | apply qAb | apply qAa | apply qAc) | exact HB.out)⟩⟩
 case round =>
  clear H'
  obtain ⟨x0_1, x2_1, rfl, HA, HK1, HO_0, HK, HB⟩ := hrel
  cases gk with
  | zero => exact absurd HA.out (by simp [hogsheadlaw0_OverBlobs.l0])
  | succ k1 =>
   have H := HA.out
   clear HA
   simp only [hogsheadlaw0_OverBlobs.l0] at H
   by_cases c2 : x2_1 < (x0_1.length : Int)
   ·rw [if_pos c2] at H
    have c2b0 : decide (x2_1 < (x0_1.length : Int)) = true := decide_eq_true c2
    clear c2
    by_cases c3 : 0 ≤ x2_1
    ·rw [if_pos c3] at H
     have c3b0 : decide (0 ≤ x2_1) = true := decide_eq_true c3
     clear c3
     obtain ⟨y533, hy533⟩ : ∃ y_ : List (S68), y_ = (x0_1.set (x2_1 : Int).toNat (⟨(⟨#[111, 118, 101, 114]⟩ : ByteArray), (⟨#[]⟩ : ByteArray)⟩ : S68)) := ⟨_, rfl⟩
     replace H : (hogsheadlaw0_OverBlobs.l0 k1 y533 (wrap64 (x2_1 + 1))) = some () := by first | (rw [hy533]; with_reducible exact H) | (have H2_ := (Option.bind_some _ _).symm.trans H; rw [hy533]; with_reducible exact H2_) | (have H2_ := (Option.bind_some _ _).symm.trans H; with_reducible exact H2_) | with_reducible exact H | (rw [hy533]; exact H) | exact H
     have Ny533 := Aside0.mk hy533
     clear hy533
     have H' := Aside0.mk H
     clear H
     obtain ⟨Ao5, co5, eo5⟩ := Kd.R_slice HO_0.out
     subst eo5
     have p4 : 0 ≤ (x2_1 : Int) := of_decide_eq_true (by first | (with_reducible assumption) | assumption)
     have q4 : (x2_1 : Int) < ((x0_1.length : Int) : Int) := of_decide_eq_true (by first | (with_reducible assumption) | assumption)
     obtain ⟨go4, co4, eo4, gb4, gl4, cl4, HG4⟩ := Kd.R_form HO_0.out (by omega)
     (first | cases eo4 | (injection eo4 with ea_ en_ ec_; (first | subst ea_ | (injection ea_ with ea_; subst ea_)); subst ec_; clear en_))
     have GB4 := Aside0.mk gb4
     have GG4 := Aside0.mk HG4
     clear gb4 gl4 HG4
     have HMgo4 := Aside0.mk (show (P0_ go4 ∨ w.heap.size ≤ go4) from (HO_0.out.1 _ rfl))
     obtain ⟨ce4, hcl4, hM4, hcc4, hfr4⟩ := Kd.R_elem HO_0.out z68 (x2_1 : Int) p4 q4
     obtain rfl := qC7 hM4
     have hx4_0 : wr.cell? ⟨go4, (x2_1 : Int).toNat * 2, none⟩ = some (.string ((rd_T68 x0_1 x2_1).f0)) := hcc4 0 _ rfl
     have hx4_1 : wr.cell? ⟨go4, (x2_1 : Int).toNat * 2 + 1, none⟩ = some (.string ((rd_T68 x0_1 x2_1).f1)) := hcc4 1 _ rfl
     have hf4_0 : wr.frozen? ⟨go4, (x2_1 : Int).toNat * 2, none⟩ = false := hfr4 0
     have hf4_1 : wr.frozen? ⟨go4, (x2_1 : Int).toNat * 2 + 1, none⟩ = false := hfr4 1
     clear hcl4 hcc4 hfr4 hM4
     replace p4 := eq_true p4
     replace q4 := eq_true q4
     have HX6 := Aside0.mk (show Kd.R k68 68 wr w0.heap.size (fun k_ => (P0_ k_ ∨ w.heap.size ≤ k_)) (.slice (some ⟨go4, 0, none⟩) x0_1.length co5) x0_1 from (by (with_reducible repeat (first | apply Kd.R_alloc | apply Kd.R_drewN | apply Kd.R_drew)); exact HO_0.out))
     obtain ⟨ce6, hcl6, hM6, hcc6, hfr6⟩ := Kd.R_elem HX6.out z68 (x2_1 : Int) (of_decide_eq_true (by first | (with_reducible assumption) | assumption)) (by have h_ : (x2_1 : Int) < ((x0_1.length : Int) : Int) := of_decide_eq_true (by first | (with_reducible assumption) | assumption); first | exact h_ | (have e_ := (Kd.R_reads' HO_0.out).1; omega) | simpa using h_)
     obtain rfl := qC7 hM6
     have HP6 := Kd.R_seg HX6.out (x2_1 : Int) (of_decide_eq_true (by first | (with_reducible assumption) | assumption)) (by have h_ : (x2_1 : Int) < ((x0_1.length : Int) : Int) := of_decide_eq_true (by first | (with_reducible assumption) | assumption); first | exact h_ | (have e_ := (Kd.R_reads' HO_0.out).1; omega) | simpa using h_) (seg := [.string (⟨#[111, 118, 101, 114]⟩ : ByteArray), .string (⟨#[]⟩ : ByteArray)]) (j := 0) hcl6 hcc6 (show 2 ≤ 2 from by decide) (x' := (⟨(⟨#[111, 118, 101, 114]⟩ : ByteArray), (⟨#[]⟩ : ByteArray)⟩ : S68)) (qDi _ _ _ (⟨(⟨#[111, 118, 101, 114]⟩ : ByteArray), (⟨#[]⟩ : ByteArray)⟩ : S68) ) (fun _ hk => hk)
     have hx6_0 := hcc6 0 _ rfl
     (try simp only [show (k68).sz = 2 from rfl, Nat.mul_one, Nat.add_zero] at hx6_0)
     have hf6_0 := hfr6 0
     (try simp only [show (k68).sz = 2 from rfl, Nat.mul_one, Nat.add_zero] at hf6_0)
     have hx6_1 := hcc6 1 _ rfl
     (try simp only [show (k68).sz = 2 from rfl, Nat.mul_one, Nat.add_zero] at hx6_1)
     have hf6_1 := hfr6 1
     (try simp only [show (k68).sz = 2 from rfl, Nat.mul_one, Nat.add_zero] at hf6_1)
     clear hcl6 hcc6 hfr6 hM6
     go_wp2_with (first | ((with_reducible refine qD4 (t := 68) (p := 12) rfl ?_); refine qDe (t := 68) (p := 12) (v := ?vo_w7) (w1 := ((wr.setCell ⟨go4, (x2_1 : Int).toNat * 2, none⟩ (.string (⟨#[111, 118, 101, 114]⟩ : ByteArray))).setCell ⟨go4, (x2_1 : Int).toNat * 2 + 1, none⟩ (.string (⟨#[]⟩ : ByteArray)))) ?hg ?ho ?hn ?hr ?_; (case ho => rfl); (case hg => rfl); (case hn => rfl); (case hr => first | (go_simp; done) | (go_simp; rfl)); intro w7 hw; have hg : wr.grownBy w7 (some go4) := (by rw [hw]; exact HP6.2); have hp_ : Kd.R k68 68 w7 w0.heap.size (fun k_ => (P0_ k_ ∨ w.heap.size ≤ k_)) (.slice (some ⟨go4, 0, none⟩) x0_1.length co5) y533 := (by rw [hw, Ny533.out]; exact HP6.1); clear HP6; have n0_ := Aside0.mk (hp_); have n1_ := Aside0.mk ((by rw [hw]; exact qDb (qDb (HB.out) GB4.out) GB4.out : Below w0.heap.size w0 w7)); have n2_ := Aside0.mk (Kept.of_grown (S := (fun k_ => P0_ k_)) hg (by repeat (first | (with_reducible first | exact HK.out | apply Kept.alloc | apply Kept.drewN | apply Kept.drew) | exact HK.out)) (fun k_ e_ => (HO_0.out.1 k_ e_))); clear HO_0; clear HB; clear HK; have HO_0 := n0_; have HB := n1_; have HK := n2_; clear n0_ n1_ n2_; clear hg hw hp_))
     go_roundg k1
     case measure => have := HK1.out; omega
     case rel => exact ⟨(y533), (wrap64 (x2_1 + 1)), (by first | rfl | (simp; done) | (simp [*]; done) | exact congrArg Value.bool (nil_ne _) | exact congrArg Value.bool (nil_eq _) | exact congrArg Value.bool (nil_ne' _)), H', ⟨by have := HK1.out; omega⟩, ⟨by (with_reducible repeat (first | apply Kd.R_alloc | apply Kd.R_drewN | apply Kd.R_drew)); exact HO_0.out⟩, ⟨by repeat (first | (with_reducible first | exact HK.out | apply Kept.alloc | apply Kept.drewN | apply Kept.drew) | exact HK.out)⟩, ⟨by repeat (first | (with_reducible first | exact HB.out | apply qAb | apply qAa | apply qAc) | exact HB.out)⟩⟩
    ·rw [if_neg c3] at H
     exact absurd H (by simp)
   ·rw [if_neg c2] at H
    have c2b0 : decide (x2_1 < (x0_1.length : Int)) = false := decide_eq_false c2
    clear c2
    by_cases c8 : x0_1.length < 4398046511104
    ·rw [if_pos c8] at H
     have LMc8 := Aside0.mk c8
     clear c8
     obtain ⟨y534, hy534⟩ : ∃ y_ : List (S68), y_ = (x0_1 ++ [(⟨(⟨#[111, 118, 101, 114]⟩ : ByteArray), (⟨#[]⟩ : ByteArray)⟩ : S68)]) := ⟨_, rfl⟩
     replace H : (some ()) = some () := by first | (rw [hy534]; with_reducible exact H) | (have H2_ := (Option.bind_some _ _).symm.trans H; rw [hy534]; with_reducible exact H2_) | (have H2_ := (Option.bind_some _ _).symm.trans H; with_reducible exact H2_) | with_reducible exact H | (rw [hy534]; exact H) | exact H
     have Ny534 := Aside0.mk hy534
     clear hy534
     obtain ⟨Ao9, co9, eo9⟩ := Kd.R_slice HO_0.out
     subst eo9
     go_wp2_with (first | ((with_reducible refine qB2 (b := .append) (xs := #[.tmp 13, .tmp 15]) rfl ?_); at_builtin; refine Kd.R_append k68 (w0 := w0) w0.heap.size rfl (.tmp 13) (.tmp 15) 55 68 (.agg #[(.string ⟨#[]⟩), (.string ⟨#[]⟩)]) 32 rfl Tryd.underlying55 info68 rfl (by decide) (by omega) (.slice Ao9 x0_1.length co9) x0_1 (⟨(⟨#[111, 118, 101, 114]⟩ : ByteArray), (⟨#[]⟩ : ByteArray)⟩ : S68) [.string (⟨#[111, 118, 101, 114]⟩ : ByteArray), .string (⟨#[]⟩ : ByteArray)] (fun k_ => (P0_ k_ ∨ w.heap.size ≤ k_)) (fun _ => False) rfl rfl ?aP (fun _ hk => hk.elim) ?aF ?aO ?aB ?aS ?aL ?_; (case aP => exact qDi _ _ _ (⟨(⟨#[111, 118, 101, 114]⟩ : ByteArray), (⟨#[]⟩ : ByteArray)⟩ : S68)); (case aB => exact (by repeat (first | (with_reducible first | exact HB.out | apply qAb | apply qAa | apply qAc) | exact HB.out))); (case aF => exact (fun k_ hk => (.inr (Nat.le_trans (by first | exact HK.out.1 | exact (show Kept w _ (fun k_ => P0_ k_) from by repeat (first | (with_reducible first | exact HK.out | apply Kept.alloc | apply Kept.drewN | apply Kept.drew) | exact HK.out)).1) hk)))); (case aO => exact (by (with_reducible repeat (first | apply Kd.R_alloc | apply Kd.R_drewN | apply Kd.R_drew)); exact HO_0.out)); (case aS => exact (qAg (by repeat (first | (with_reducible first | exact HB.out | apply qAb | apply qAa | apply qAc) | exact HB.out)))); (case aL => have := LMc8.out; omega); intro v535 w10 ho hb hg hat; rw [← Ny534.out] at ho; have n0_ := Aside0.mk (hb); have n1_ := Aside0.mk (Kept.of_grown (S := (fun k_ => P0_ k_)) hg (by repeat (first | (with_reducible first | exact HK.out | apply Kept.alloc | apply Kept.drewN | apply Kept.drew) | exact HK.out)) (fun k_ e_ => (HO_0.out.1 k_ e_))); have n2_ := Aside0.mk (ho); clear HB; clear HK; clear HO_0; have HB := n0_; have HK := n1_; have HO536 := n2_; clear n0_ n1_ n2_; clear ho hb hg hat))
     first | go_end0 | ((try simp only [Exit.inBlock, Exit.then]); refine bodyPost_ret (results_none rfl _ _ _) rfl ?_)
     exact ⟨by first | rfl | (simp [qA0, qAz] <;> rfl) | (simp [*, qA0, qAz] <;> rfl), by repeat (first | (with_reducible first | exact HB.out | apply qAb | apply qAa | apply qAc) | exact HB.out), by repeat (first | (with_reducible first | exact HK.out | apply Kept.alloc | apply Kept.drewN | apply Kept.drew) | exact HK.out)⟩
    ·rw [if_neg c8] at H
     exact absurd H (by simp)
end Go.Proofs.YtbnoihpooeombaaDoor.P
