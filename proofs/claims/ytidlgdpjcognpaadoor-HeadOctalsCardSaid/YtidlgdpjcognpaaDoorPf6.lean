-- written by xprint.py (the kit's print.py, turned), out of the translation; Lean checks it.
import Derived.Test.YtidlgdpjcognpaaDoorP0
import Derived.Test.YtidlgdpjcognpaaDoorPf23
import Derived.Test.YtidlgdpjcognpaaDoorPf24
import Derived.Test.YtidlgdpjcognpaaDoorPf25
import Derived.Test.YtidlgdpjcognpaaDoorPf26
import Derived.Test.YtidlgdpjcognpaaDoorPf27
namespace Go.Proofs.YtidlgdpjcognpaaDoor.P
open Go.Proofs.YtidlgdpjcognpaaDoor.X
open Go.RowKit Go.Proofs.YtidlgdpjcognpaaDoorW.PrintWords Go.Proofs.YtidlgdpjcognpaaDoorW.PrintLast Go.Proofs.YtidlgdpjcognpaaDoorW.PrintMore
attribute [local go_sem] max2_int min2_int max_two min_two max_three min_three max_four min_four   -- for this text's walks alone
set_option linter.unusedVariables false
set_option linter.unusedSimpArgs false

/-! ### hogsheadlaw12_HeadOctals: function 6 -/
def hogsheadlaw12_HeadOctals.j0 : Nat → Int → Int → ByteArray → Bool → Bool → Option (Bool)
  | 0, _, _, _, _, _ => none
  | k + 1, x0, x1, x7, x8, x60 => if x60 = true then (some false) else (if x8 = true then ((head_OfOctal.f k x7).bind fun bt177 => (if bt177.1 = x0 then (if bt177.2 = true then (if (x7.size : Int) = x1 then ((hogsheadlaw12_awake.f k).bind fun t179 => (some t179)) else (some false)) else (some false)) else (some false))) else ((hogsheadlaw12_awake.f k).bind fun t180 => (some t180)))
def hogsheadlaw12_HeadOctals.f (k : Nat) (a0 : Int) (a1 : Int) (a2 : ByteArray) : Option (Bool) := if (a2.size : Int) > 20 then ((hogsheadlaw12_awake.f k).bind fun t168 => (some t168)) else ((head_Octal.f k a0 a1).bind fun bt169 => ((hogsheadref12_Octal.f k a0 a1).bind fun bt171 => ((head_OfOctal.f k a2).bind fun bt173 => ((hogsheadref12_OfOctal.f k a2).bind fun bt175 => (if bt169.1.toList = bt171.1.toList then (if (bt169.2 != bt171.2) = true then (hogsheadlaw12_HeadOctals.j0 k a0 a1 bt169.1 bt169.2 true) else (if bt173.1 = bt175.1 then (hogsheadlaw12_HeadOctals.j0 k a0 a1 bt169.1 bt169.2 (bt173.2 != bt175.2)) else (hogsheadlaw12_HeadOctals.j0 k a0 a1 bt169.1 bt169.2 true))) else (hogsheadlaw12_HeadOctals.j0 k a0 a1 bt169.1 bt169.2 true))))))
theorem hogsheadlaw12_HeadOctals.mono_l : ∀ k, (∀ y0 y1 y2 y3 y4, LeO (hogsheadlaw12_HeadOctals.j0 k y0 y1 y2 y3 y4) (hogsheadlaw12_HeadOctals.j0 (k + 1) y0 y1 y2 y3 y4))
  | 0 => fun _ _ _ _ _ r h => by simp [hogsheadlaw12_HeadOctals.j0] at h
  | k + 1 => by
    have ih0 := hogsheadlaw12_HeadOctals.mono_l k
    · intro y0 y1 y2 y3 y4
      unfold hogsheadlaw12_HeadOctals.j0
      repeat' first
      | (with_reducible exact ih0 _ _ _ _ _)
      | (with_reducible exact head_Octal.mono _ _ _)
      | (with_reducible exact head_OfOctal.mono _ _)
      | (with_reducible exact hogsheadlaw12_awake.mono _)
      | (with_reducible exact hogsheadref12_Octal.mono _ _ _)
      | (with_reducible exact hogsheadref12_OfOctal.mono _ _)
      | (with_reducible exact LeO.refl _)
      | (with_reducible exact LeO.none _)
      | (with_reducible refine LeO.ite ?_ ?_)
      | (with_reducible refine LeO.bind ?_ (fun _ => ?_))
      | exact ih0 _ _ _ _ _
      | exact head_Octal.mono _ _ _
      | exact head_OfOctal.mono _ _
      | exact hogsheadlaw12_awake.mono _
      | exact hogsheadref12_Octal.mono _ _ _
      | exact hogsheadref12_OfOctal.mono _ _
      | exact LeO.none _
      | refine LeO.ite ?_ ?_
      | refine LeO.bind ?_ (fun _ => ?_)
theorem hogsheadlaw12_HeadOctals.mono : ∀ a0 a1 a2 k, LeO (hogsheadlaw12_HeadOctals.f k a0 a1 a2) (hogsheadlaw12_HeadOctals.f (k + 1) a0 a1 a2) := by
  intro a0 a1 a2 k
  have ih0 := hogsheadlaw12_HeadOctals.mono_l k
  unfold hogsheadlaw12_HeadOctals.f
  repeat' first
      | (with_reducible exact ih0 _ _ _ _ _)
      | (with_reducible exact head_Octal.mono _ _ _)
      | (with_reducible exact head_OfOctal.mono _ _)
      | (with_reducible exact hogsheadlaw12_awake.mono _)
      | (with_reducible exact hogsheadref12_Octal.mono _ _ _)
      | (with_reducible exact hogsheadref12_OfOctal.mono _ _)
      | (with_reducible exact LeO.refl _)
      | (with_reducible exact LeO.none _)
      | (with_reducible refine LeO.ite ?_ ?_)
      | (with_reducible refine LeO.bind ?_ (fun _ => ?_))
      | exact ih0 _ _ _ _ _
      | exact head_Octal.mono _ _ _
      | exact head_OfOctal.mono _ _
      | exact hogsheadlaw12_awake.mono _
      | exact hogsheadref12_Octal.mono _ _ _
      | exact hogsheadref12_OfOctal.mono _ _
      | exact LeO.none _
      | refine LeO.ite ?_ ?_
      | refine LeO.bind ?_ (fun _ => ?_)
set_option maxHeartbeats 8000000 in
set_option maxRecDepth 100000 in
theorem hogsheadlaw12_HeadOctals.calls (k : Nat) (a0 : Int) (a1 : Int) (a2 : ByteArray) (r : Bool) (w : World) (hT : Aside0 (Tabs w)) (h : hogsheadlaw12_HeadOctals.f k a0 a1 a2 = some r) :
    Calls Tryd.prog 6 #[.int .i64 a0, .int .i64 a1, .string a2] w fun e w' => e = .returned (.bool r) ∧ Below w.heap.size w w' := by
  have HB := Aside0.mk (Below.refl w.heap.size w)
  have H : (if (a2.size : Int) > 20 then ((hogsheadlaw12_awake.f k).bind fun t168 => (some t168)) else ((head_Octal.f k a0 a1).bind fun bt169 => ((hogsheadref12_Octal.f k a0 a1).bind fun bt171 => ((head_OfOctal.f k a2).bind fun bt173 => ((hogsheadref12_OfOctal.f k a2).bind fun bt175 => (if bt169.1.toList = bt171.1.toList then (if (bt169.2 != bt171.2) = true then (hogsheadlaw12_HeadOctals.j0 k a0 a1 bt169.1 bt169.2 true) else (if bt173.1 = bt175.1 then (hogsheadlaw12_HeadOctals.j0 k a0 a1 bt169.1 bt169.2 (bt173.2 != bt175.2)) else (hogsheadlaw12_HeadOctals.j0 k a0 a1 bt169.1 bt169.2 true))) else (hogsheadlaw12_HeadOctals.j0 k a0 a1 bt169.1 bt169.2 true))))))) = some r := h
  clear h
  by_cases c4 : (a2.size : Int) > 20
  · rw [if_pos c4] at H
    have c4b0 : decide (20 < (a2.size : Int)) = true := decide_eq_true c4
    have c4b1 : decide (20 < a2.size) = true := decide_eq_true (by omega)
    clear c4
    replace H := Option.bind_eq_some_iff.mp H
    obtain ⟨t168, A50, H⟩ := H
    replace H : (some t168) = some r := H
    have A5 := Aside0.mk A50
    clear A50
    obtain rfl := Option.some.inj H
    go_enter Tryd.func6, Tryd.ntmps6
    go_wp2_with (first | ((with_reducible refine gate_callee (f := 23) rfl ?_); refine goesL_ (some 20) rfl rfl Tryd.func23 (by kernel_rfl) rfl #[] rfl (by (try simp only [List.map_toArray, List.map_cons, List.map_nil]); first | done | rfl | (simp only [List.length_drop, List.length_take]; rfl)) ?_; (with_reducible refine (hogsheadlaw12_awake.calls k  t168 _ ?side1 A5.out).mono ?_); (case side1 => exact ⟨Tabs.below hT.out (by repeat (first | (with_reducible first | exact HB.out | apply below_alloc | apply pw_below_drewN | apply below_drew1) | exact HB.out))⟩); rintro e w6 ⟨rfl, hb⟩; refine ⟨_, rfl, ?_⟩; have n0_ := Aside0.mk (below_step (by repeat (first | (with_reducible first | exact HB.out | apply below_alloc | apply pw_below_drewN | apply below_drew1) | exact HB.out)) hb); clear HB; have HB := n0_; clear n0_; (try clear hb); (try clear hb2); (try clear hk); (try clear hi)))
    go_ret
    exact ⟨by first | rfl | (simp [errW_none, errW_some] <;> rfl) | (simp [*, errW_none, errW_some] <;> rfl), by repeat (first | (with_reducible first | exact HB.out | apply below_alloc | apply pw_below_drewN | apply below_drew1) | exact HB.out)⟩
  · rw [if_neg c4] at H
    have c4b0 : decide (20 < (a2.size : Int)) = false := decide_eq_false c4
    have c4b1 : decide (20 < a2.size) = false := decide_eq_false (by omega)
    clear c4
    replace H := Option.bind_eq_some_iff.mp H
    obtain ⟨⟨t169, t170⟩, A70, H⟩ := H
    replace H : ((hogsheadref12_Octal.f k a0 a1).bind fun bt171 => ((head_OfOctal.f k a2).bind fun bt173 => ((hogsheadref12_OfOctal.f k a2).bind fun bt175 => (if t169.toList = bt171.1.toList then (if (t170 != bt171.2) = true then (hogsheadlaw12_HeadOctals.j0 k a0 a1 t169 t170 true) else (if bt173.1 = bt175.1 then (hogsheadlaw12_HeadOctals.j0 k a0 a1 t169 t170 (bt173.2 != bt175.2)) else (hogsheadlaw12_HeadOctals.j0 k a0 a1 t169 t170 true))) else (hogsheadlaw12_HeadOctals.j0 k a0 a1 t169 t170 true))))) = some r := H
    have A7 := Aside0.mk A70
    clear A70
    replace H := Option.bind_eq_some_iff.mp H
    obtain ⟨⟨t171, t172⟩, A80, H⟩ := H
    replace H : ((head_OfOctal.f k a2).bind fun bt173 => ((hogsheadref12_OfOctal.f k a2).bind fun bt175 => (if t169.toList = t171.toList then (if (t170 != t172) = true then (hogsheadlaw12_HeadOctals.j0 k a0 a1 t169 t170 true) else (if bt173.1 = bt175.1 then (hogsheadlaw12_HeadOctals.j0 k a0 a1 t169 t170 (bt173.2 != bt175.2)) else (hogsheadlaw12_HeadOctals.j0 k a0 a1 t169 t170 true))) else (hogsheadlaw12_HeadOctals.j0 k a0 a1 t169 t170 true)))) = some r := H
    have A8 := Aside0.mk A80
    clear A80
    replace H := Option.bind_eq_some_iff.mp H
    obtain ⟨⟨t173, t174⟩, A90, H⟩ := H
    replace H : ((hogsheadref12_OfOctal.f k a2).bind fun bt175 => (if t169.toList = t171.toList then (if (t170 != t172) = true then (hogsheadlaw12_HeadOctals.j0 k a0 a1 t169 t170 true) else (if t173 = bt175.1 then (hogsheadlaw12_HeadOctals.j0 k a0 a1 t169 t170 (t174 != bt175.2)) else (hogsheadlaw12_HeadOctals.j0 k a0 a1 t169 t170 true))) else (hogsheadlaw12_HeadOctals.j0 k a0 a1 t169 t170 true))) = some r := H
    have A9 := Aside0.mk A90
    clear A90
    replace H := Option.bind_eq_some_iff.mp H
    obtain ⟨⟨t175, t176⟩, A100, H⟩ := H
    replace H : (if t169.toList = t171.toList then (if (t170 != t172) = true then (hogsheadlaw12_HeadOctals.j0 k a0 a1 t169 t170 true) else (if t173 = t175 then (hogsheadlaw12_HeadOctals.j0 k a0 a1 t169 t170 (t174 != t176)) else (hogsheadlaw12_HeadOctals.j0 k a0 a1 t169 t170 true))) else (hogsheadlaw12_HeadOctals.j0 k a0 a1 t169 t170 true)) = some r := H
    have A10 := Aside0.mk A100
    clear A100
    have HC11 := Aside0.mk H
    clear H
    go_enter Tryd.func6, Tryd.ntmps6
    go_upto_region 7 with (first | ((with_reducible refine gate_callee (f := 24) rfl ?_); refine goesL_ (some 24) rfl rfl Tryd.func24 (by kernel_rfl) rfl #[.int .i64 a0, .int .i64 a1] rfl (by (try simp only [List.map_toArray, List.map_cons, List.map_nil]); first | done | rfl | (simp only [List.length_drop, List.length_take]; rfl)) ?_; (with_reducible refine (head_Octal.calls k a0 a1 t169 t170 _ ?side1 A7.out).mono ?_); (case side1 => exact ⟨Tabs.below hT.out (by repeat (first | (with_reducible first | exact HB.out | apply below_alloc | apply pw_below_drewN | apply below_drew1) | exact HB.out))⟩); rintro e w12 ⟨rfl, hb⟩; refine ⟨_, rfl, ?_⟩; have n0_ := Aside0.mk (below_step (by repeat (first | (with_reducible first | exact HB.out | apply below_alloc | apply pw_below_drewN | apply below_drew1) | exact HB.out)) hb); clear HB; have HB := n0_; clear n0_; (try clear hb); (try clear hb2); (try clear hk); (try clear hi)) | ((with_reducible refine gate_callee (f := 25) rfl ?_); refine goesL_ (some 30) rfl rfl Tryd.func25 (by kernel_rfl) rfl #[.int .i64 a0, .int .i64 a1] rfl (by (try simp only [List.map_toArray, List.map_cons, List.map_nil]); first | done | rfl | (simp only [List.length_drop, List.length_take]; rfl)) ?_; (with_reducible refine (hogsheadref12_Octal.calls k a0 a1 t171 t172 _ A8.out).mono ?_); rintro e w' ⟨rfl, ⟨nd, rfl⟩⟩; refine ⟨_, rfl, ?_⟩) | ((with_reducible refine gate_callee (f := 26) rfl ?_); refine goesL_ (some 35) rfl rfl Tryd.func26 (by kernel_rfl) rfl #[.string a2] rfl (by (try simp only [List.map_toArray, List.map_cons, List.map_nil]); first | done | rfl | (simp only [List.length_drop, List.length_take]; rfl)) ?_; (with_reducible refine (head_OfOctal.calls k a2 t173 t174 _ A9.out).mono ?_); rintro e w' ⟨rfl, ⟨nd, rfl⟩⟩; refine ⟨_, rfl, ?_⟩) | ((with_reducible refine gate_callee (f := 27) rfl ?_); refine goesL_ (some 40) rfl rfl Tryd.func27 (by kernel_rfl) rfl #[.string a2] rfl (by (try simp only [List.map_toArray, List.map_cons, List.map_nil]); first | done | rfl | (simp only [List.length_drop, List.length_take]; rfl)) ?_; (with_reducible refine (hogsheadref12_OfOctal.calls k a2 t175 t176 _ A10.out).mono ?_); rintro e w' ⟨rfl, ⟨nd, rfl⟩⟩; refine ⟨_, rfl, ?_⟩))
    (try simp only [Act.put, List.setIfInBounds_toArray, List.set_cons_zero, List.set_cons_succ])
    go_cut [60] (fun v60 wc => ∃ (kq : Nat) (x60_10 : Bool), v60 = .bool x60_10 ∧ Aside0 (hogsheadlaw12_HeadOctals.j0 kq a0 a1 t169 t170 x60_10 = some r) ∧ Aside0 (kq ≤ k) ∧ Aside0 (Below w.heap.size w wc))
    case first =>
      have H := HC11.out
      clear HC11
      by_cases c13 : t169.toList = t171.toList
      · rw [if_pos c13] at H
        have c13b0 : (t169.toList == t171.toList) = true := beq_iff_eq.mpr c13
        have c13b1 : (t169.toList != t171.toList) = false := bne_eq_false_iff_eq.mpr c13
        clear c13
        (first | rw [c13b0] | (simp only [i64_w, i32_w]; rw [c13b0]) | skip)
        by_cases c14 : (t170 != t172) = true
        · rw [if_pos c14] at H
          have c14b0 : (t170 != t172) = true := c14
          (try (have c14b1 : decide (t170 = t172) = false := by simpa using c14))
          (try (have c14b2 : (t170 == t172) = false := by simpa using c14))
          (try (have c14b3 : ¬ (t170 = t172) := by simpa using c14))
          clear c14
          have H' := Aside0.mk H
          clear H
          go_wp2
          go_meet
          case rel => exact ⟨_, (true), (by first | rfl | (simp; done) | (simp [*]; done)), H', ⟨by first | omega | exact Nat.le_refl _⟩, ⟨by repeat (first | (with_reducible first | exact HB.out | apply below_alloc | apply pw_below_drewN | apply below_drew1) | exact HB.out)⟩⟩
        · rw [if_neg c14] at H
          have c14b0 : (t170 != t172) = false := by simpa using c14
          (try (have c14b1 : decide (t170 = t172) = true := by simpa using c14))
          (try (have c14b2 : (t170 == t172) = true := by simpa using c14))
          clear c14
          by_cases c15 : t173 = t175
          · rw [if_pos c15] at H
            have c15b0 : (t173 == t175) = true := beq_iff_eq.mpr c15
            have c15b1 : (t173 != t175) = false := bne_eq_false_iff_eq.mpr c15
            clear c15
            have H' := Aside0.mk H
            clear H
            go_wp2
            go_meet
            case rel => exact ⟨_, ((t174 != t176)), (by first | rfl | (simp; done) | (simp [*]; done)), H', ⟨by first | omega | exact Nat.le_refl _⟩, ⟨by repeat (first | (with_reducible first | exact HB.out | apply below_alloc | apply pw_below_drewN | apply below_drew1) | exact HB.out)⟩⟩
          · rw [if_neg c15] at H
            have c15b0 : (t173 == t175) = false := beq_eq_false_iff_ne.mpr c15
            have c15b1 : (t173 != t175) = true := bne_iff_ne.mpr c15
            have H' := Aside0.mk H
            clear H
            go_wp2
            go_meet
            case rel => exact ⟨_, (true), (by first | rfl | (simp; done) | (simp [*]; done)), H', ⟨by first | omega | exact Nat.le_refl _⟩, ⟨by repeat (first | (with_reducible first | exact HB.out | apply below_alloc | apply pw_below_drewN | apply below_drew1) | exact HB.out)⟩⟩
      · rw [if_neg c13] at H
        have c13b0 : (t169.toList == t171.toList) = false := beq_eq_false_iff_ne.mpr c13
        have c13b1 : (t169.toList != t171.toList) = true := bne_iff_ne.mpr c13
        (first | rw [c13b0] | (simp only [i64_w, i32_w]; rw [c13b0]) | skip)
        have H' := Aside0.mk H
        clear H
        go_wp2
        go_meet
        case rel => exact ⟨_, (true), (by first | rfl | (simp; done) | (simp [*]; done)), H', ⟨by first | omega | exact Nat.le_refl _⟩, ⟨by repeat (first | (with_reducible first | exact HB.out | apply below_alloc | apply pw_below_drewN | apply below_drew1) | exact HB.out)⟩⟩
    case rest =>
      clear HC11
      try clear c1
      try clear c2
      try clear p2
      try clear c4
      try clear c4b0
      try clear c4b1
      try clear c6
      try clear c13
      try clear c13b0
      try clear c13b1
      try clear c14
      try clear c14b0
      try clear c14b1
      try clear c14b2
      try clear c15
      try clear c15b0
      try clear c15b1
      obtain ⟨kq, x60_10, rfl, HA, HJ10, HB⟩ := hcut
      cases kq with
      | zero => exact absurd HA.out (by simp [hogsheadlaw12_HeadOctals.j0])
      | succ kj10 =>
        have H := HA.out
        clear HA
        simp only [hogsheadlaw12_HeadOctals.j0] at H
        by_cases c16 : x60_10 = true
        · subst c16
          have H1 : (some false) = some r := by rw [if_pos rfl] at H; exact H
          clear H
          have H := H1
          clear H1
          obtain rfl := Option.some.inj H
          go_wp2
          go_ret
          exact ⟨by first | rfl | (simp [errW_none, errW_some] <;> rfl) | (simp [*, errW_none, errW_some] <;> rfl), by repeat (first | (with_reducible first | exact HB.out | apply below_alloc | apply pw_below_drewN | apply below_drew1) | exact HB.out)⟩
        · replace c16 := Bool.eq_false_iff.mpr c16
          subst c16
          have H1 : (if t170 = true then ((head_OfOctal.f kj10 t169).bind fun bt177 => (if bt177.1 = a0 then (if bt177.2 = true then (if (t169.size : Int) = a1 then ((hogsheadlaw12_awake.f kj10).bind fun t179 => (some t179)) else (some false)) else (some false)) else (some false))) else ((hogsheadlaw12_awake.f kj10).bind fun t180 => (some t180))) = some r := by rw [if_neg (show ¬ (false = true) by decide)] at H; exact H
          clear H
          have H := H1
          clear H1
          by_cases c17 : t170 = true
          · subst c17
            have H1 : ((head_OfOctal.f kj10 t169).bind fun bt177 => (if bt177.1 = a0 then (if bt177.2 = true then (if (t169.size : Int) = a1 then ((hogsheadlaw12_awake.f kj10).bind fun t179 => (some t179)) else (some false)) else (some false)) else (some false))) = some r := by rw [if_pos rfl] at H; exact H
            clear H
            have H := H1
            clear H1
            replace H := Option.bind_eq_some_iff.mp H
            obtain ⟨⟨t177, t178⟩, A180, H⟩ := H
            replace H : (if t177 = a0 then (if t178 = true then (if (t169.size : Int) = a1 then ((hogsheadlaw12_awake.f kj10).bind fun t179 => (some t179)) else (some false)) else (some false)) else (some false)) = some r := H
            have A18 := Aside0.mk A180
            clear A180
            by_cases c19 : t177 = a0
            · rw [if_pos c19] at H
              have c19b0 : (t177 == a0) = true := beq_iff_eq.mpr c19
              have c19b1 : (t177 != a0) = false := bne_eq_false_iff_eq.mpr c19
              clear c19
              by_cases c20 : t178 = true
              · subst c20
                have H1 : (if (t169.size : Int) = a1 then ((hogsheadlaw12_awake.f kj10).bind fun t179 => (some t179)) else (some false)) = some r := by rw [if_pos rfl] at H; exact H
                clear H
                have H := H1
                clear H1
                by_cases c21 : (t169.size : Int) = a1
                · rw [if_pos c21] at H
                  have c21b0 : ((t169.size : Int) == a1) = true := beq_iff_eq.mpr c21
                  have c21b1 : ((t169.size : Int) != a1) = false := bne_eq_false_iff_eq.mpr c21
                  clear c21
                  replace H := Option.bind_eq_some_iff.mp H
                  obtain ⟨t179, A220, H⟩ := H
                  replace H : (some t179) = some r := H
                  have A22 := Aside0.mk A220
                  clear A220
                  obtain rfl := Option.some.inj H
                  go_wp2_with (first | ((with_reducible refine gate_callee (f := 26) rfl ?_); refine goesL_ (some 64) rfl rfl Tryd.func26 (by kernel_rfl) rfl #[.string t169] rfl (by (try simp only [List.map_toArray, List.map_cons, List.map_nil]); first | done | rfl | (simp only [List.length_drop, List.length_take]; rfl)) ?_; (with_reducible refine (head_OfOctal.calls kj10 t169 t177 true _ A18.out).mono ?_); rintro e w' ⟨rfl, ⟨nd, rfl⟩⟩; refine ⟨_, rfl, ?_⟩) | (go_at_call 23; (with_reducible refine (hogsheadlaw12_awake.calls kj10  t179 _ ?side1 A22.out).mono ?_); (case side1 => exact ⟨Tabs.below hT.out (by repeat (first | (with_reducible first | exact HB.out | apply below_alloc | apply pw_below_drewN | apply below_drew1) | exact HB.out))⟩); rintro e w23 ⟨rfl, hb⟩; have n0_ := Aside0.mk (below_step (by repeat (first | (with_reducible first | exact HB.out | apply below_alloc | apply pw_below_drewN | apply below_drew1) | exact HB.out)) hb); clear HB; have HB := n0_; clear n0_; (try clear hb); (try clear hb2); (try clear hk); (try clear hi)))
                  go_ret
                  exact ⟨by first | rfl | (simp [errW_none, errW_some] <;> rfl) | (simp [*, errW_none, errW_some] <;> rfl), by repeat (first | (with_reducible first | exact HB.out | apply below_alloc | apply pw_below_drewN | apply below_drew1) | exact HB.out)⟩
                · rw [if_neg c21] at H
                  have c21b0 : ((t169.size : Int) == a1) = false := beq_eq_false_iff_ne.mpr c21
                  have c21b1 : ((t169.size : Int) != a1) = true := bne_iff_ne.mpr c21
                  obtain rfl := Option.some.inj H
                  go_wp2_with (first | ((with_reducible refine gate_callee (f := 26) rfl ?_); refine goesL_ (some 64) rfl rfl Tryd.func26 (by kernel_rfl) rfl #[.string t169] rfl (by (try simp only [List.map_toArray, List.map_cons, List.map_nil]); first | done | rfl | (simp only [List.length_drop, List.length_take]; rfl)) ?_; (with_reducible refine (head_OfOctal.calls kj10 t169 t177 true _ A18.out).mono ?_); rintro e w' ⟨rfl, ⟨nd, rfl⟩⟩; refine ⟨_, rfl, ?_⟩))
                  go_ret
                  exact ⟨by first | rfl | (simp [errW_none, errW_some] <;> rfl) | (simp [*, errW_none, errW_some] <;> rfl), by repeat (first | (with_reducible first | exact HB.out | apply below_alloc | apply pw_below_drewN | apply below_drew1) | exact HB.out)⟩
              · replace c20 := Bool.eq_false_iff.mpr c20
                subst c20
                have H1 : (some false) = some r := by rw [if_neg (show ¬ (false = true) by decide)] at H; exact H
                clear H
                have H := H1
                clear H1
                obtain rfl := Option.some.inj H
                go_wp2_with (first | ((with_reducible refine gate_callee (f := 26) rfl ?_); refine goesL_ (some 64) rfl rfl Tryd.func26 (by kernel_rfl) rfl #[.string t169] rfl (by (try simp only [List.map_toArray, List.map_cons, List.map_nil]); first | done | rfl | (simp only [List.length_drop, List.length_take]; rfl)) ?_; (with_reducible refine (head_OfOctal.calls kj10 t169 t177 false _ A18.out).mono ?_); rintro e w' ⟨rfl, ⟨nd, rfl⟩⟩; refine ⟨_, rfl, ?_⟩))
                go_ret
                exact ⟨by first | rfl | (simp [errW_none, errW_some] <;> rfl) | (simp [*, errW_none, errW_some] <;> rfl), by repeat (first | (with_reducible first | exact HB.out | apply below_alloc | apply pw_below_drewN | apply below_drew1) | exact HB.out)⟩
            · rw [if_neg c19] at H
              have c19b0 : (t177 == a0) = false := beq_eq_false_iff_ne.mpr c19
              have c19b1 : (t177 != a0) = true := bne_iff_ne.mpr c19
              obtain rfl := Option.some.inj H
              go_wp2_with (first | ((with_reducible refine gate_callee (f := 26) rfl ?_); refine goesL_ (some 64) rfl rfl Tryd.func26 (by kernel_rfl) rfl #[.string t169] rfl (by (try simp only [List.map_toArray, List.map_cons, List.map_nil]); first | done | rfl | (simp only [List.length_drop, List.length_take]; rfl)) ?_; (with_reducible refine (head_OfOctal.calls kj10 t169 t177 t178 _ A18.out).mono ?_); rintro e w' ⟨rfl, ⟨nd, rfl⟩⟩; refine ⟨_, rfl, ?_⟩))
              go_ret
              exact ⟨by first | rfl | (simp [errW_none, errW_some] <;> rfl) | (simp [*, errW_none, errW_some] <;> rfl), by repeat (first | (with_reducible first | exact HB.out | apply below_alloc | apply pw_below_drewN | apply below_drew1) | exact HB.out)⟩
          · replace c17 := Bool.eq_false_iff.mpr c17
            subst c17
            have H1 : ((hogsheadlaw12_awake.f kj10).bind fun t180 => (some t180)) = some r := by rw [if_neg (show ¬ (false = true) by decide)] at H; exact H
            clear H
            have H := H1
            clear H1
            replace H := Option.bind_eq_some_iff.mp H
            obtain ⟨t180, A240, H⟩ := H
            replace H : (some t180) = some r := H
            have A24 := Aside0.mk A240
            clear A240
            obtain rfl := Option.some.inj H
            go_wp2_with (first | ((with_reducible refine gate_callee (f := 23) rfl ?_); refine goesL_ (some 82) rfl rfl Tryd.func23 (by kernel_rfl) rfl #[] rfl (by (try simp only [List.map_toArray, List.map_cons, List.map_nil]); first | done | rfl | (simp only [List.length_drop, List.length_take]; rfl)) ?_; (with_reducible refine (hogsheadlaw12_awake.calls kj10  t180 _ ?side1 A24.out).mono ?_); (case side1 => exact ⟨Tabs.below hT.out (by repeat (first | (with_reducible first | exact HB.out | apply below_alloc | apply pw_below_drewN | apply below_drew1) | exact HB.out))⟩); rintro e w25 ⟨rfl, hb⟩; refine ⟨_, rfl, ?_⟩; have n0_ := Aside0.mk (below_step (by repeat (first | (with_reducible first | exact HB.out | apply below_alloc | apply pw_below_drewN | apply below_drew1) | exact HB.out)) hb); clear HB; have HB := n0_; clear n0_; (try clear hb); (try clear hb2); (try clear hk); (try clear hi)))
            go_ret
            exact ⟨by first | rfl | (simp [errW_none, errW_some] <;> rfl) | (simp [*, errW_none, errW_some] <;> rfl), by repeat (first | (with_reducible first | exact HB.out | apply below_alloc | apply pw_below_drewN | apply below_drew1) | exact HB.out)⟩

end Go.Proofs.YtidlgdpjcognpaaDoor.P
