-- written by xprint.py (the kit's print.py, turned), out of the translation; Lean checks it.
import Derived.Test.YtidlgdpjcognpaaDoorP0
namespace Go.Proofs.YtidlgdpjcognpaaDoor.P
open Go.Proofs.YtidlgdpjcognpaaDoor.X
open Go.RowKit Go.Proofs.YtidlgdpjcognpaaDoorW.PrintWords Go.Proofs.YtidlgdpjcognpaaDoorW.PrintLast Go.Proofs.YtidlgdpjcognpaaDoorW.PrintMore
attribute [local go_sem] max2_int min2_int max_two min_two max_three min_three max_four min_four   -- for this text's walks alone
set_option linter.unusedVariables false
set_option linter.unusedSimpArgs false

/-! ### hogsheadref12_mode: function 42 -/
def hogsheadref12_mode.f (a0 : Int) : Option (ByteArray) := (some (([(⟨#[]⟩ : ByteArray), (⟨#[48, 48, 48, 48, 55, 53, 53]⟩ : ByteArray), (⟨#[48, 48, 48, 48, 54, 52, 52]⟩ : ByteArray), (⟨#[48, 48, 48, 48, 55, 53, 53]⟩ : ByteArray), (⟨#[48, 48, 48, 48, 55, 55, 55]⟩ : ByteArray), (⟨#[48, 48, 48, 48, 54, 52, 52]⟩ : ByteArray)] : List ByteArray) : List ByteArray)).bind fun y295 => (if 0 ≤ a0 then (if a0 < (y295.length : Int) then (some (rdOf ByteArray.empty y295 a0)) else (none)) else (none))
set_option maxHeartbeats 8000000 in
set_option maxRecDepth 100000 in
theorem hogsheadref12_mode.calls (a0 : Int) (r : ByteArray) (w : World) (h : hogsheadref12_mode.f a0 = some r) :
    Calls Tryd.prog 42 #[.int .i64 a0] w fun e w' => e = .returned (.string r) ∧ Below w.heap.size w w' := by
  have HB := Aside0.mk (Below.refl w.heap.size w)
  have H : ((some (([(⟨#[]⟩ : ByteArray), (⟨#[48, 48, 48, 48, 55, 53, 53]⟩ : ByteArray), (⟨#[48, 48, 48, 48, 54, 52, 52]⟩ : ByteArray), (⟨#[48, 48, 48, 48, 55, 53, 53]⟩ : ByteArray), (⟨#[48, 48, 48, 48, 55, 55, 55]⟩ : ByteArray), (⟨#[48, 48, 48, 48, 54, 52, 52]⟩ : ByteArray)] : List ByteArray) : List ByteArray)).bind fun y295 => (if 0 ≤ a0 then (if a0 < (y295.length : Int) then (some (rdOf ByteArray.empty y295 a0)) else (none)) else (none))) = some r := h
  clear h
  obtain ⟨y295, hy295⟩ : ∃ y_ : List ByteArray, y_ = (([(⟨#[]⟩ : ByteArray), (⟨#[48, 48, 48, 48, 55, 53, 53]⟩ : ByteArray), (⟨#[48, 48, 48, 48, 54, 52, 52]⟩ : ByteArray), (⟨#[48, 48, 48, 48, 55, 53, 53]⟩ : ByteArray), (⟨#[48, 48, 48, 48, 55, 55, 55]⟩ : ByteArray), (⟨#[48, 48, 48, 48, 54, 52, 52]⟩ : ByteArray)] : List ByteArray)) := ⟨_, rfl⟩
  replace H : (if 0 ≤ a0 then (if a0 < (y295.length : Int) then (some (rdOf ByteArray.empty y295 a0)) else (none)) else (none)) = some r := by first | (rw [hy295]; with_reducible exact H) | (have H2_ := (Option.bind_some _ _).symm.trans H; rw [hy295]; with_reducible exact H2_) | (have H2_ := (Option.bind_some _ _).symm.trans H; with_reducible exact H2_) | with_reducible exact H | (rw [hy295]; exact H) | exact H
  have Ny295 := Aside0.mk hy295
  clear hy295
  by_cases c2 : 0 ≤ a0
  · rw [if_pos c2] at H
    have c2b0 : decide (0 ≤ a0) = true := decide_eq_true c2
    clear c2
    by_cases c3 : a0 < (y295.length : Int)
    · rw [if_pos c3] at H
      have c3b0 : decide (a0 < (y295.length : Int)) = true := decide_eq_true c3
      clear c3
      obtain rfl := Option.some.inj H
      go_enter Tryd.func42, Tryd.ntmps42
      go_wp2_with (first | ((with_reducible refine gate_dst (N := 3) rfl ?_); refine Kd.R_lit Kd.string _ 9 ?hg (N := 3) ?hd (xs := ([(⟨#[]⟩ : ByteArray), (⟨#[48, 48, 48, 48, 55, 53, 53]⟩ : ByteArray), (⟨#[48, 48, 48, 48, 54, 52, 52]⟩ : ByteArray), (⟨#[48, 48, 48, 48, 55, 53, 53]⟩ : ByteArray), (⟨#[48, 48, 48, 48, 55, 55, 55]⟩ : ByteArray), (⟨#[48, 48, 48, 48, 54, 52, 52]⟩ : ByteArray)] : List ByteArray)) (inner := [.string (⟨#[]⟩ : ByteArray), .string (⟨#[48, 48, 48, 48, 55, 53, 53]⟩ : ByteArray), .string (⟨#[48, 48, 48, 48, 54, 52, 52]⟩ : ByteArray), .string (⟨#[48, 48, 48, 48, 55, 53, 53]⟩ : ByteArray), .string (⟨#[48, 48, 48, 48, 55, 55, 55]⟩ : ByteArray), .string (⟨#[48, 48, 48, 48, 54, 52, 52]⟩ : ByteArray)]) (ok := fun _ => True) (okp := fun _ => True) ?hr ?hp (fun _ hk => hk) trivial (Below.refl _ _) (Nat.le_refl _) (by simp) ?_; (case hd => rfl); (case hg => rfl); (case hr => first | (go_simp; done) | (go_simp; rfl)); (case hp => exact (Reps.one (show Kd.M Kd.string _ _ _ (⟨#[]⟩ : ByteArray) [.string (⟨#[]⟩ : ByteArray)] from rfl) (Reps.one (show Kd.M Kd.string _ _ _ (⟨#[48, 48, 48, 48, 55, 53, 53]⟩ : ByteArray) [.string (⟨#[48, 48, 48, 48, 55, 53, 53]⟩ : ByteArray)] from rfl) (Reps.one (show Kd.M Kd.string _ _ _ (⟨#[48, 48, 48, 48, 54, 52, 52]⟩ : ByteArray) [.string (⟨#[48, 48, 48, 48, 54, 52, 52]⟩ : ByteArray)] from rfl) (Reps.one (show Kd.M Kd.string _ _ _ (⟨#[48, 48, 48, 48, 55, 53, 53]⟩ : ByteArray) [.string (⟨#[48, 48, 48, 48, 55, 53, 53]⟩ : ByteArray)] from rfl) (Reps.one (show Kd.M Kd.string _ _ _ (⟨#[48, 48, 48, 48, 55, 55, 55]⟩ : ByteArray) [.string (⟨#[48, 48, 48, 48, 55, 55, 55]⟩ : ByteArray)] from rfl) (Reps.one (show Kd.M Kd.string _ _ _ (⟨#[48, 48, 48, 48, 54, 52, 52]⟩ : ByteArray) [.string (⟨#[48, 48, 48, 48, 54, 52, 52]⟩ : ByteArray)] from rfl) (Reps.none _ _)))))))); intro v296 w4 ho5 hb hg_ hnew_; clear hg_ hnew_; (first | rw [← Ny295.out] at ho5 | (simp only [Int.reduceToNat] at ho5; rw [← Ny295.out] at ho5)); have n0_ := Aside0.mk (Kd.R_lower ho5 (below_size (by repeat (first | (with_reducible first | exact HB.out | apply below_alloc | apply pw_below_drewN | apply below_drew1) | exact HB.out)))); have n1_ := Aside0.mk (below_step (by repeat (first | (with_reducible first | exact HB.out | apply below_alloc | apply pw_below_drewN | apply below_drew1) | exact HB.out)) hb); clear HB; have HO297 := n0_; have HB := n1_; clear n0_ n1_; clear hb ho5; obtain ⟨Ao6, co6, eo6⟩ := Kd.R_slice HO297.out; subst eo6; have p298 : 0 ≤ (a0 : Int) := of_decide_eq_true (by first | (with_reducible assumption) | assumption); have q298 : a0 < (y295.length : Int) := of_decide_eq_true (by first | (with_reducible assumption) | assumption); obtain ⟨ad298, e298, hx298_0⟩ := Kd.at_string (Kd.R_reads' HO297.out).2.2 a0 p298 q298; cases e298; replace p298 := eq_true p298; replace q298 := eq_true q298))
      go_ret
      exact ⟨by first | rfl | (simp [errW_none, errW_some] <;> rfl) | (simp [*, errW_none, errW_some] <;> rfl), by repeat (first | (with_reducible first | exact HB.out | apply below_alloc | apply pw_below_drewN | apply below_drew1) | exact HB.out)⟩
    · rw [if_neg c3] at H
      exact absurd H (by simp)
  · rw [if_neg c2] at H
    exact absurd H (by simp)

end Go.Proofs.YtidlgdpjcognpaaDoor.P
