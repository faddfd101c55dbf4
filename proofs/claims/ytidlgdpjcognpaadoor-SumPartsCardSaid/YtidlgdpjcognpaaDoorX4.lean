/- sum.Of of one slice, as a variadic call lays it. -/
import Derived.Test.YtidlgdpjcognpaaDoorX2
namespace Go.Proofs.YtidlgdpjcognpaaDoor.X
open Go.RowKit Go.Proofs.YtidlgdpjcognpaaDoorW.PrintWords Go.Proofs.YtidlgdpjcognpaaDoor.P
set_option linter.unusedVariables false

def sum_One.f (k : Nat) (l0 : List Int) : Option Int := sum_Of.f k [l0]
theorem sum_One.mono : ∀ a0 k, LeO (sum_One.f k a0) (sum_One.f (k + 1) a0) := fun a0 k => sum_Of.mono [a0] k
theorem sum_One.calls (k : Nat) (A0 : Option Addr) (c0 : Nat) (l0 : List Int) (r : Int) (w : World) (hr0 : Kd.C (Kd.int .u8) w A0 l0.length l0) (hc0 : l0.length ≤ c0) (h : sum_One.f k l0 = some r) :
    Calls Tryd.prog 13 #[.slice (some ⟨w.heap.size, 0, none⟩) 1 1] (w.alloc (.cells #[.slice A0 l0.length c0] 22)) fun e w' => e = .returned (.int .u64 r) ∧ Below w.heap.size w w' := by
  refine (sum_Of.calls k _ 1 [l0] r _ (one_C (e := 5) (t := 22) hr0 hc0) (Nat.le_refl _) h).mono ?_
  rintro e w' ⟨he, hd⟩
  exact ⟨he, below_step ((Below.refl _ _).alloc (Nat.le_refl _) _) hd.below⟩
theorem sum_One.calls_d (k : Nat) (A0 : Option Addr) (c0 : Nat) (l0 : List Int) (r : Int) (w : World) (m : Nat) (hr0 : Kd.C (Kd.int .u8) w A0 l0.length l0) (hc0 : l0.length ≤ c0) (h : sum_One.f k l0 = some r) :
    Calls Tryd.prog 13 #[.slice (some ⟨w.heap.size, 0, none⟩) 1 1] ((w.alloc (.cells #[.slice A0 l0.length c0] 22)).drewN m) fun e w' => e = .returned (.int .u64 r) ∧ Below w.heap.size w w' := by
  refine (sum_Of.calls k _ 1 [l0] r _ (Kd.C_below (one_C (e := 5) (t := 22) hr0 hc0) (pw_below_drewN (Below.refl _ _) m)) (Nat.le_refl _) h).mono ?_
  rintro e w' ⟨he, hd⟩
  exact ⟨he, below_step (pw_below_drewN ((Below.refl _ _).alloc (Nat.le_refl _) _) m) hd.below⟩
theorem sum_One.calls_g (k : Nat) (A0 : Option Addr) (n c0 : Nat) (l0 : List Int) (r : Int) (w : World) (b : Nat) (hn : n = l0.length) (hb : b = w.heap.size) (hr0 : Kd.C (Kd.int .u8) w A0 l0.length l0) (hc0 : l0.length ≤ c0) (h : sum_One.f k l0 = some r) :
    Calls Tryd.prog 13 #[.slice (some ⟨b, 0, none⟩) 1 1] (w.alloc (.cells #[.slice A0 n c0] 22)) fun e w' => e = .returned (.int .u64 r) ∧ Below w.heap.size w w' := by
  subst hn hb
  exact sum_One.calls k A0 c0 l0 r w hr0 hc0 h
theorem sum_One.calls_gd (k : Nat) (A0 : Option Addr) (n c0 : Nat) (l0 : List Int) (r : Int) (w : World) (b m : Nat) (hn : n = l0.length) (hb : b = w.heap.size) (hr0 : Kd.C (Kd.int .u8) w A0 l0.length l0) (hc0 : l0.length ≤ c0) (h : sum_One.f k l0 = some r) :
    Calls Tryd.prog 13 #[.slice (some ⟨b, 0, none⟩) 1 1] ((w.alloc (.cells #[.slice A0 n c0] 22)).drewN m) fun e w' => e = .returned (.int .u64 r) ∧ Below w.heap.size w w' := by
  subst hn hb
  exact sum_One.calls_d k A0 c0 l0 r w m hr0 hc0 h
end Go.Proofs.YtidlgdpjcognpaaDoor.X
