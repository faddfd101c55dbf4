-- written by xprint.py (the kit's print.py, turned), out of the translation; Lean checks it.
import Derived.Test.YtidlgdpjcognpaaDoorP0
import Derived.Test.YtidlgdpjcognpaaDoorPf55
namespace Go.Proofs.YtidlgdpjcognpaaDoor.P
open Go.Proofs.YtidlgdpjcognpaaDoor.X
open Go.RowKit Go.Proofs.YtidlgdpjcognpaaDoorW.PrintWords Go.Proofs.YtidlgdpjcognpaaDoorW.PrintLast Go.Proofs.YtidlgdpjcognpaaDoorW.PrintMore
attribute [local go_sem] max2_int min2_int max_two min_two max_three min_three max_four min_four   -- for this text's walks alone
set_option linter.unusedVariables false
set_option linter.unusedSimpArgs false

/-! ### head_may: function 37 -/
def head_may.f (a0 : ByteArray) (a1 : Int) (a2 : Int) (a3 : ByteArray) : Option (Bool) := if a0.toList = ([] : List UInt8) then (some false) else ((head_text.f a0).bind fun t293 => (if t293 = true then ((head_text.f a3).bind fun t294 => (if t294 = true then (if a1 < 1 then (some false) else (if a1 > 5 then (some false) else (if ((a3.toList != ([] : List UInt8)) == (a1 == 4)) = true then (if a2 = 0 then (some true) else (if a1 = 1 then (some false) else (some (a1 != 4)))) else (some false)))) else (some false))) else (some false)))
set_option maxHeartbeats 8000000 in
set_option maxRecDepth 100000 in
theorem head_may.calls (a0 : ByteArray) (a1 : Int) (a2 : Int) (a3 : ByteArray) (r : Bool) (w : World) (h : head_may.f a0 a1 a2 a3 = some r) :
    Calls Tryd.prog 37 #[.string a0, .int .i64 a1, .int .i64 a2, .string a3] w fun e w' => e = .returned (.bool r) ∧ Drawn0 w w' := by
  have H : (if a0.toList = ([] : List UInt8) then (some false) else ((head_text.f a0).bind fun t293 => (if t293 = true then ((head_text.f a3).bind fun t294 => (if t294 = true then (if a1 < 1 then (some false) else (if a1 > 5 then (some false) else (if ((a3.toList != ([] : List UInt8)) == (a1 == 4)) = true then (if a2 = 0 then (some true) else (if a1 = 1 then (some false) else (some (a1 != 4)))) else (some false)))) else (some false))) else (some false)))) = some r := h
  clear h
  by_cases c5 : a0.toList = ([] : List UInt8)
  · rw [if_pos c5] at H
    have c5b0 : (a0.toList == ([] : List UInt8)) = true := beq_iff_eq.mpr c5
    have c5b1 : (a0.toList != ([] : List UInt8)) = false := bne_eq_false_iff_eq.mpr c5
    clear c5
    obtain rfl := Option.some.inj H
    go_enter Tryd.func37, Tryd.ntmps37
    go_wp2
    go_ret
    exact ⟨by first | rfl | (simp; done) | (simp [*]; done), by repeat (first | exact Drawn0.refl _ | apply Drawn0.step)⟩
  · rw [if_neg c5] at H
    have c5b0 : (a0.toList == ([] : List UInt8)) = false := beq_eq_false_iff_ne.mpr c5
    have c5b1 : (a0.toList != ([] : List UInt8)) = true := bne_iff_ne.mpr c5
    replace H := Option.bind_eq_some_iff.mp H
    obtain ⟨t293, A60, H⟩ := H
    replace H : (if t293 = true then ((head_text.f a3).bind fun t294 => (if t294 = true then (if a1 < 1 then (some false) else (if a1 > 5 then (some false) else (if ((a3.toList != ([] : List UInt8)) == (a1 == 4)) = true then (if a2 = 0 then (some true) else (if a1 = 1 then (some false) else (some (a1 != 4)))) else (some false)))) else (some false))) else (some false)) = some r := H
    have A6 := Aside0.mk A60
    clear A60
    by_cases c7 : t293 = true
    · subst c7
      have H1 : ((head_text.f a3).bind fun t294 => (if t294 = true then (if a1 < 1 then (some false) else (if a1 > 5 then (some false) else (if ((a3.toList != ([] : List UInt8)) == (a1 == 4)) = true then (if a2 = 0 then (some true) else (if a1 = 1 then (some false) else (some (a1 != 4)))) else (some false)))) else (some false))) = some r := by rw [if_pos rfl] at H; exact H
      clear H
      have H := H1
      clear H1
      replace H := Option.bind_eq_some_iff.mp H
      obtain ⟨t294, A80, H⟩ := H
      replace H : (if t294 = true then (if a1 < 1 then (some false) else (if a1 > 5 then (some false) else (if ((a3.toList != ([] : List UInt8)) == (a1 == 4)) = true then (if a2 = 0 then (some true) else (if a1 = 1 then (some false) else (some (a1 != 4)))) else (some false)))) else (some false)) = some r := H
      have A8 := Aside0.mk A80
      clear A80
      by_cases c9 : t294 = true
      · subst c9
        have H1 : (if a1 < 1 then (some false) else (if a1 > 5 then (some false) else (if ((a3.toList != ([] : List UInt8)) == (a1 == 4)) = true then (if a2 = 0 then (some true) else (if a1 = 1 then (some false) else (some (a1 != 4)))) else (some false)))) = some r := by rw [if_pos rfl] at H; exact H
        clear H
        have H := H1
        clear H1
        by_cases c10 : a1 < 1
        · rw [if_pos c10] at H
          have c10b0 : decide (a1 < 1) = true := decide_eq_true c10
          clear c10
          obtain rfl := Option.some.inj H
          go_enter Tryd.func37, Tryd.ntmps37
          go_wp2_with (first | (go_at_call 55; (with_reducible refine (head_text.calls a0 true _ A6.out).mono ?_); rintro e w' ⟨rfl, ⟨nd, rfl⟩⟩) | (go_at_call 55; (with_reducible refine (head_text.calls a3 true _ A8.out).mono ?_); rintro e w' ⟨rfl, ⟨nd, rfl⟩⟩))
          go_ret
          exact ⟨by first | rfl | (simp; done) | (simp [*]; done), by repeat (first | exact Drawn0.refl _ | apply Drawn0.step)⟩
        · rw [if_neg c10] at H
          have c10b0 : decide (a1 < 1) = false := decide_eq_false c10
          clear c10
          by_cases c11 : a1 > 5
          · rw [if_pos c11] at H
            have c11b0 : decide (5 < a1) = true := decide_eq_true c11
            clear c11
            obtain rfl := Option.some.inj H
            go_enter Tryd.func37, Tryd.ntmps37
            go_wp2_with (first | (go_at_call 55; (with_reducible refine (head_text.calls a0 true _ A6.out).mono ?_); rintro e w' ⟨rfl, ⟨nd, rfl⟩⟩) | (go_at_call 55; (with_reducible refine (head_text.calls a3 true _ A8.out).mono ?_); rintro e w' ⟨rfl, ⟨nd, rfl⟩⟩))
            go_ret
            exact ⟨by first | rfl | (simp; done) | (simp [*]; done), by repeat (first | exact Drawn0.refl _ | apply Drawn0.step)⟩
          · rw [if_neg c11] at H
            have c11b0 : decide (5 < a1) = false := decide_eq_false c11
            clear c11
            by_cases c12 : ((a3.toList != ([] : List UInt8)) == (a1 == 4)) = true
            · rw [if_pos c12] at H
              have c12b0 : ((a3.toList != ([] : List UInt8)) == (a1 == 4)) = true := c12
              have c12b8 : (a3.toList.isEmpty = !(a1 == 4)) := by have h_ := c12b0; revert h_; generalize (a1 == 4) = y_; cases a3.toList <;> cases y_ <;> simp (config := { decide := true })
              (try (have c12b1 : decide ((a3.toList != ([] : List UInt8)) = (a1 == 4)) = true := by simpa using c12))
              (try (have c12b2 : ((a3.toList != ([] : List UInt8)) == (a1 == 4)) = true := by simpa using c12))
              clear c12
              by_cases c13 : a2 = 0
              · rw [if_pos c13] at H
                have c13b0 : (a2 == 0) = true := beq_iff_eq.mpr c13
                have c13b1 : (a2 != 0) = false := bne_eq_false_iff_eq.mpr c13
                clear c13
                obtain rfl := Option.some.inj H
                go_enter Tryd.func37, Tryd.ntmps37
                go_wp2_with (first | (go_at_call 55; (with_reducible refine (head_text.calls a0 true _ A6.out).mono ?_); rintro e w' ⟨rfl, ⟨nd, rfl⟩⟩) | (go_at_call 55; (with_reducible refine (head_text.calls a3 true _ A8.out).mono ?_); rintro e w' ⟨rfl, ⟨nd, rfl⟩⟩))
                go_ret
                exact ⟨by first | rfl | (simp; done) | (simp [*]; done), by repeat (first | exact Drawn0.refl _ | apply Drawn0.step)⟩
              · rw [if_neg c13] at H
                have c13b0 : (a2 == 0) = false := beq_eq_false_iff_ne.mpr c13
                have c13b1 : (a2 != 0) = true := bne_iff_ne.mpr c13
                by_cases c14 : a1 = 1
                · rw [if_pos c14] at H
                  have c14b0 : (a1 == 1) = true := beq_iff_eq.mpr c14
                  have c14b1 : (a1 != 1) = false := bne_eq_false_iff_eq.mpr c14
                  clear c14
                  obtain rfl := Option.some.inj H
                  go_enter Tryd.func37, Tryd.ntmps37
                  go_wp2_with (first | (go_at_call 55; (with_reducible refine (head_text.calls a0 true _ A6.out).mono ?_); rintro e w' ⟨rfl, ⟨nd, rfl⟩⟩) | (go_at_call 55; (with_reducible refine (head_text.calls a3 true _ A8.out).mono ?_); rintro e w' ⟨rfl, ⟨nd, rfl⟩⟩))
                  go_ret
                  exact ⟨by first | rfl | (simp; done) | (simp [*]; done), by repeat (first | exact Drawn0.refl _ | apply Drawn0.step)⟩
                · rw [if_neg c14] at H
                  have c14b0 : (a1 == 1) = false := beq_eq_false_iff_ne.mpr c14
                  have c14b1 : (a1 != 1) = true := bne_iff_ne.mpr c14
                  obtain rfl := Option.some.inj H
                  go_enter Tryd.func37, Tryd.ntmps37
                  go_wp2_with (first | (go_at_call 55; (with_reducible refine (head_text.calls a0 true _ A6.out).mono ?_); rintro e w' ⟨rfl, ⟨nd, rfl⟩⟩) | (go_at_call 55; (with_reducible refine (head_text.calls a3 true _ A8.out).mono ?_); rintro e w' ⟨rfl, ⟨nd, rfl⟩⟩))
                  go_ret
                  exact ⟨by first | rfl | (simp; done) | (simp [*]; done), by repeat (first | exact Drawn0.refl _ | apply Drawn0.step)⟩
            · rw [if_neg c12] at H
              have c12b0 : ((a3.toList != ([] : List UInt8)) == (a1 == 4)) = false := by simpa using c12
              have c12b8 : ¬ (a3.toList.isEmpty = !(a1 == 4)) := by have h_ := c12b0; revert h_; generalize (a1 == 4) = y_; cases a3.toList <;> cases y_ <;> simp (config := { decide := true })
              (try (have c12b1 : decide ((a3.toList != ([] : List UInt8)) = (a1 == 4)) = false := by simpa using c12))
              (try (have c12b2 : ((a3.toList != ([] : List UInt8)) == (a1 == 4)) = false := by simpa using c12))
              (try (have c12b3 : ¬ ((a3.toList != ([] : List UInt8)) = (a1 == 4)) := by simpa using c12))
              clear c12
              obtain rfl := Option.some.inj H
              go_enter Tryd.func37, Tryd.ntmps37
              go_wp2_with (first | (go_at_call 55; (with_reducible refine (head_text.calls a0 true _ A6.out).mono ?_); rintro e w' ⟨rfl, ⟨nd, rfl⟩⟩) | (go_at_call 55; (with_reducible refine (head_text.calls a3 true _ A8.out).mono ?_); rintro e w' ⟨rfl, ⟨nd, rfl⟩⟩))
              go_ret
              exact ⟨by first | rfl | (simp; done) | (simp [*]; done), by repeat (first | exact Drawn0.refl _ | apply Drawn0.step)⟩
      · replace c9 := Bool.eq_false_iff.mpr c9
        subst c9
        have H1 : (some false) = some r := by rw [if_neg (show ¬ (false = true) by decide)] at H; exact H
        clear H
        have H := H1
        clear H1
        obtain rfl := Option.some.inj H
        go_enter Tryd.func37, Tryd.ntmps37
        go_wp2_with (first | (go_at_call 55; (with_reducible refine (head_text.calls a0 true _ A6.out).mono ?_); rintro e w' ⟨rfl, ⟨nd, rfl⟩⟩) | (go_at_call 55; (with_reducible refine (head_text.calls a3 false _ A8.out).mono ?_); rintro e w' ⟨rfl, ⟨nd, rfl⟩⟩))
        go_ret
        exact ⟨by first | rfl | (simp; done) | (simp [*]; done), by repeat (first | exact Drawn0.refl _ | apply Drawn0.step)⟩
    · replace c7 := Bool.eq_false_iff.mpr c7
      subst c7
      have H1 : (some false) = some r := by rw [if_neg (show ¬ (false = true) by decide)] at H; exact H
      clear H
      have H := H1
      clear H1
      obtain rfl := Option.some.inj H
      go_enter Tryd.func37, Tryd.ntmps37
      go_wp2_with (first | (go_at_call 55; (with_reducible refine (head_text.calls a0 false _ A6.out).mono ?_); rintro e w' ⟨rfl, ⟨nd, rfl⟩⟩))
      go_ret
      exact ⟨by first | rfl | (simp; done) | (simp [*]; done), by repeat (first | exact Drawn0.refl _ | apply Drawn0.step)⟩

end Go.Proofs.YtidlgdpjcognpaaDoor.P
