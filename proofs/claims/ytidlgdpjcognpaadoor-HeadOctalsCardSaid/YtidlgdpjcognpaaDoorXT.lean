/- What the library's tables hold in a world of this seat: the facts that the contracts over them ask, and that calls keep. -/
import Derived.Test.YtidlgdpjcognpaaDoorProg
import Derived.Test.YtidlgdpjcognpaaDoorWWords
import Derived.Test.YtidlgdpjcognpaaDoorWMore
import Derived.Lib.ItoaNum
import Derived.Lib.ItoaMem
namespace Go.Proofs.YtidlgdpjcognpaaDoor.X
open Go.RowKit Go.Proofs.YtidlgdpjcognpaaDoorW.PrintWords

/-- The tables that the library's functions read here. -/
structure Tabs (w : World) : Prop where
  t16 : w.cell? ⟨3, 15, none⟩ = some (.int .u8 4)
  t8 : w.cell? ⟨3, 7, none⟩ = some (.int .u8 3)
  pow : Lib.TabIs Tryd.prog w "internal/strconv.uint64pow10" .u64 Lib.pow10Tab
  maxl : ∃ m : Int, w.cell? ⟨1, 0, none⟩ = some (.int .i64 m)

theorem tabIs_below {P : Program} {w w1 : World} {n : String} {k : IntKind} {zs : List Int} (h : Lib.TabIs P w n k zs) (hb : Below w.heap.size w w1) : Lib.TabIs P w1 n k zs := by
  unfold Lib.TabIs World.var? at h ⊢
  cases hg : P.globalNamed n with
  | none => simp [hg] at h
  | some g =>
    simp only [hg, Option.bind_some] at h ⊢
    have hlt : g < w.heap.size := by
      rcases Nat.lt_or_ge g w.heap.size with h' | h'
      · exact h'
      · simp [Array.getElem?_eq_none h'] at h
    rw [hb.block g hlt]
    exact h
theorem Tabs.below {w w1 : World} (h : Tabs w) (hb : Below w.heap.size w w1) : Tabs w1 where
  t16 := pw_cell_below hb h.t16
  t8 := pw_cell_below hb h.t8
  pow := tabIs_below h.pow hb
  maxl := let ⟨m, hm⟩ := h.maxl; ⟨m, pw_cell_below hb hm⟩
theorem C_string_any {P : Program} {w : World} {src dst e : TypeId} {A : Option Addr} {c : Nat} {xs : List Int} (hs : P.underlying src = some (.slice e)) (he : P.underlying e = some (.int .u8)) (hd : P.underlying dst = some .string)
    (h : (Kd.int .u8).C w A xs.length xs) : ∀ (m n : Nat), n = xs.length → (convert src dst (.slice A n c)).run P (w.drewN m) = .ok (.string (strOfNums xs)) (w.drewN m) := by
  rintro m n rfl
  exact Kd.C_string hs he hd (Kd.C_below h (pw_below_drewN (Below.refl _ _) m))
theorem Tabs.drawn {w w1 : World} (h : Tabs w) (hd : Drawn0 w w1) : Tabs w1 := h.below hd.below
/-- append, its run known. -/
theorem wpList_append_run {P : Program} {ops : Array Oper} {rest : List Oper} {o : Oper} {a : Act} {Q : Exit → Act → World → Prop} {W : World} (hgd : o.guard = none) (s x : Operand) (t u : TypeId)
    (ho : o.op = .call { callee := .builtin .append, args := #[s, x], argTypes := #[t, u] }) (v1 v2 v : Value) (W2 : World) (hs : a.eval s = v1) (hx : a.eval x = v2)
    (hr : (Builtin.append_ #[t, u] o.type #[v1, v2]).run P W = .ok v W2) (h : wpList P ops Q rest (a.put o.dst v) W2) : wpList P ops Q (o :: rest) a W :=
  wpList_plain hgd fun K hK => by
    unfold Oper.wp execOp
    simp only [ho, resolve, invoke, builtin, Sem.run_bind, Sem.run_pure, Result.andThen_ok, List.map_toArray, List.map_cons, List.map_nil, hs, hx, hr]
    exact hK _ _ h
/-- copy, its run known. -/
theorem wpList_copy_run {P : Program} {ops : Array Oper} {rest : List Oper} {o : Oper} {a : Act} {Q : Exit → Act → World → Prop} {W : World} (hgd : o.guard = none) (s x : Operand) (t u : TypeId)
    (ho : o.op = .call { callee := .builtin .copy, args := #[s, x], argTypes := #[t, u] }) (v1 v2 v : Value) (W2 : World) (hs : a.eval s = v1) (hx : a.eval x = v2)
    (hr : (Builtin.copy_ #[t, u] o.type #[v1, v2]).run P W = .ok v W2) (h : wpList P ops Q rest (a.put o.dst v) W2) : wpList P ops Q (o :: rest) a W :=
  wpList_plain hgd fun K hK => by
    unfold Oper.wp execOp
    simp only [ho, resolve, invoke, builtin, Sem.run_bind, Sem.run_pure, Result.andThen_ok, List.map_toArray, List.map_cons, List.map_nil, hs, hx, hr]
    exact hK _ _ h
end Go.Proofs.YtidlgdpjcognpaaDoor.X
