/- Part 2 of what is behind the rows RowHeadReads: X6, Pf23, XPL, Pf6, XPM, Pf30, Pf31, Pf22, XPW, Pf7. -/
import Derived.Test.YtidlgdpjcognpaaDoorMHeadR1
import Derived.KernelRfl
/- hogsheadref12.Lay, walked by hand: copies fill a buffer. -/
namespace Go.Proofs.YtidlgdpjcognpaaDoor.X
open Go.RowKit Go.Proofs.YtidlgdpjcognpaaDoorW.PrintWords Go.Proofs.YtidlgdpjcognpaaDoor.P
set_option linter.unusedVariables false
set_option linter.unusedSimpArgs false

def rlaid0 (name md dg : ByteArray) (lt : Int) (link : ByteArray) : List Int :=
  putB (putB ((putB (putB (putB (putB (putB (putB (putB zeros512 0 name) 100 md) 108 ⟨#[48, 48, 48, 48, 48, 48, 48]⟩) 116 ⟨#[48, 48, 48, 48, 48, 48, 48]⟩) 124 dg) 136 ⟨#[48, 48, 48, 48, 48, 48, 48, 48, 48, 48, 48]⟩) 148 ⟨#[32, 32, 32, 32, 32, 32, 32, 32]⟩).set 156 lt) 157 link) 257 ⟨#[117, 115, 116, 97, 114, 0, 48, 48]⟩
/-- What is laid, where the name, the kind and the link may be. -/
def hogsheadref12_Lay.g (k : Nat) (a0 : ByteArray) (a1 a2 : Int) (a3 : ByteArray) : Option (List Int × Bool) :=
  (hogsheadref12_Octal.f k a2 11).bind fun o => if o.2 = true then
    (hogsheadref12_mode.f a1).bind fun md => (hogsheadref12_letter.f a1).bind fun lt =>
      if md.size ≤ 412 ∧ o.1.size ≤ 388 then
        (hogsheadref12_Octal.f k (sumB (rlaid0 a0 md o.1 lt a3)) 6).bind fun q => if q.1.size + 2 ≤ 364 then some (putB (rlaid0 a0 md o.1 lt a3) 148 (q.1 ++ (⟨#[0, 32]⟩ : ByteArray)), true) else none
      else none
  else some ([], false)
def hogsheadref12_Lay.f (k : Nat) (a0 : ByteArray) (a1 a2 : Int) (a3 : ByteArray) : Option (List Int × Bool) :=
  if a0.toList = [] then some ([], false) else
  if (100 : Int) < a0.size then some ([], false) else
  (hogsheadref12_zero.f k a0).bind fun z => if z = true then some ([], false) else
  if (100 : Int) < a3.size then some ([], false) else
  (hogsheadref12_zero.f k a3).bind fun y => if y = true then some ([], false) else
  if a1 < 1 then some ([], false) else
  if 5 < a1 then some ([], false) else
  if ((a1 == 4) == (a3.toList == [])) = true then some ([], false) else
  if (a1 = 1 ∨ a1 = 4) ∧ a2 ≠ 0 then some ([], false) else
  hogsheadref12_Lay.g k a0 a1 a2 a3
theorem hogsheadref12_Lay.mono : ∀ a0 a1 a2 a3 k, LeO (hogsheadref12_Lay.f k a0 a1 a2 a3) (hogsheadref12_Lay.f (k + 1) a0 a1 a2 a3) := by
  intro a0 a1 a2 a3 k
  unfold hogsheadref12_Lay.f
  refine LeO.ite (LeO.refl _) <| LeO.ite (LeO.refl _) <| LeO.bind (hogsheadref12_zero.mono _ _) fun z => LeO.ite (LeO.refl _) <| LeO.ite (LeO.refl _) <| LeO.bind (hogsheadref12_zero.mono _ _) fun y => LeO.ite (LeO.refl _) <| LeO.ite (LeO.refl _) <| LeO.ite (LeO.refl _) <| LeO.ite (LeO.refl _) <| LeO.ite (LeO.refl _) ?_
  unfold hogsheadref12_Lay.g
  exact LeO.bind (hogsheadref12_Octal.mono _ _ _) fun o => LeO.ite (LeO.bind (LeO.refl _) fun md => LeO.bind (LeO.refl _) fun lt => LeO.ite (LeO.bind (hogsheadref12_Octal.mono _ _ _) fun q => LeO.refl _) (LeO.refl _)) (LeO.refl _)

set_option maxHeartbeats 12800000 in
set_option maxRecDepth 100000 in
theorem hogsheadref12_Lay.calls (k : Nat) (a0 : ByteArray) (a1 a2 : Int) (a3 : ByteArray) (r1 : List Int) (r2 : Bool) (w : World) (h : hogsheadref12_Lay.f k a0 a1 a2 a3 = some (r1, r2)) :
    Calls Tryd.prog 29 #[.string a0, .int .i64 a1, .int .i64 a2, .string a3] w fun e w' => ∃ v0_, e = .returned (.tuple #[v0_, .bool r2]) ∧ (Kd.int .u8).R 5 w' w.heap.size (fun _ => True) v0_ r1 ∧ Below w.heap.size w w' := by
  unfold hogsheadref12_Lay.f at h
  by_cases c1 : a0.toList = []
  · rw [if_pos c1] at h
    have c1a : (a0.toList == []) = true := beq_iff_eq.mpr c1
    obtain ⟨rfl, rfl⟩ := Prod.mk.inj (Option.some.inj h)
    go_enter Tryd.func29, Tryd.ntmps29
    go_wp2
    go_ret2
    exact ⟨_, rfl, Kd.R_nil _ _ _ _ _, by repeat (first | exact Below.refl _ _ | apply below_drew1 | apply pw_below_drewN)⟩
  rw [if_neg c1] at h
  have c1a : (a0.toList == []) = false := beq_eq_false_iff_ne.mpr c1
  by_cases c2 : (100 : Int) < a0.size
  · rw [if_pos c2] at h
    have c2a : decide ((100 : Int) < a0.size) = true := decide_eq_true c2
    obtain ⟨rfl, rfl⟩ := Prod.mk.inj (Option.some.inj h)
    go_enter Tryd.func29, Tryd.ntmps29
    go_wp2
    go_ret2
    exact ⟨_, rfl, Kd.R_nil _ _ _ _ _, by repeat (first | exact Below.refl _ _ | apply below_drew1 | apply pw_below_drewN)⟩
  rw [if_neg c2] at h
  have c2a : decide ((100 : Int) < a0.size) = false := decide_eq_false c2
  replace h := Option.bind_eq_some_iff.mp h
  obtain ⟨z, hz, h⟩ := h
  have Hz := Aside0.mk hz
  clear hz
  by_cases c3 : z = true
  · rw [if_pos c3] at h
    subst c3
    obtain ⟨rfl, rfl⟩ := Prod.mk.inj (Option.some.inj h)
    go_enter Tryd.func29, Tryd.ntmps29
    go_wp2_with (first | (go_at_call 41; refine (hogsheadref12_zero.calls k a0 true _ Hz.out).mono ?_; rintro e wn ⟨rfl, ⟨nz, rfl⟩⟩; (try clear Hz)))
    go_ret2
    exact ⟨_, rfl, Kd.R_nil _ _ _ _ _, by repeat (first | exact Below.refl _ _ | apply below_drew1 | apply pw_below_drewN)⟩
  rw [if_neg c3] at h
  obtain rfl : z = false := by simpa using c3
  clear c3
  by_cases c4 : (100 : Int) < a3.size
  · rw [if_pos c4] at h
    have c4a : decide ((100 : Int) < a3.size) = true := decide_eq_true c4
    obtain ⟨rfl, rfl⟩ := Prod.mk.inj (Option.some.inj h)
    go_enter Tryd.func29, Tryd.ntmps29
    go_wp2_with (first | (go_at_call 41; refine (hogsheadref12_zero.calls k a0 false _ Hz.out).mono ?_; rintro e wn ⟨rfl, ⟨nz, rfl⟩⟩; (try clear Hz)))
    go_ret2
    exact ⟨_, rfl, Kd.R_nil _ _ _ _ _, by repeat (first | exact Below.refl _ _ | apply below_drew1 | apply pw_below_drewN)⟩
  rw [if_neg c4] at h
  have c4a : decide ((100 : Int) < a3.size) = false := decide_eq_false c4
  replace h := Option.bind_eq_some_iff.mp h
  obtain ⟨y, hy, h⟩ := h
  have Hy := Aside0.mk hy
  clear hy
  by_cases c5 : y = true
  · rw [if_pos c5] at h
    subst c5
    obtain ⟨rfl, rfl⟩ := Prod.mk.inj (Option.some.inj h)
    go_enter Tryd.func29, Tryd.ntmps29
    go_wp2_with (first | (go_at_call 41; refine (hogsheadref12_zero.calls k a0 false _ Hz.out).mono ?_; rintro e wn ⟨rfl, ⟨nz, rfl⟩⟩; (try clear Hz)) | (go_at_call 41; refine (hogsheadref12_zero.calls k a3 true _ Hy.out).mono ?_; rintro e wn ⟨rfl, ⟨ny, rfl⟩⟩; (try clear Hy)))
    go_ret2
    exact ⟨_, rfl, Kd.R_nil _ _ _ _ _, by repeat (first | exact Below.refl _ _ | apply below_drew1 | apply pw_below_drewN)⟩
  rw [if_neg c5] at h
  obtain rfl : y = false := by simpa using c5
  clear c5
  by_cases c6 : a1 < 1
  · rw [if_pos c6] at h
    have c6a : decide (a1 < 1) = true := decide_eq_true c6
    obtain ⟨rfl, rfl⟩ := Prod.mk.inj (Option.some.inj h)
    go_enter Tryd.func29, Tryd.ntmps29
    go_wp2_with (first | (go_at_call 41; refine (hogsheadref12_zero.calls k a0 false _ Hz.out).mono ?_; rintro e wn ⟨rfl, ⟨nz, rfl⟩⟩; (try clear Hz)) | (go_at_call 41; refine (hogsheadref12_zero.calls k a3 false _ Hy.out).mono ?_; rintro e wn ⟨rfl, ⟨ny, rfl⟩⟩; (try clear Hy)))
    go_ret2
    exact ⟨_, rfl, Kd.R_nil _ _ _ _ _, by repeat (first | exact Below.refl _ _ | apply below_drew1 | apply pw_below_drewN)⟩
  rw [if_neg c6] at h
  have c6a : decide (a1 < 1) = false := decide_eq_false c6
  by_cases c7 : 5 < a1
  · rw [if_pos c7] at h
    have c7a : decide (5 < a1) = true := decide_eq_true c7
    obtain ⟨rfl, rfl⟩ := Prod.mk.inj (Option.some.inj h)
    go_enter Tryd.func29, Tryd.ntmps29
    go_wp2_with (first | (go_at_call 41; refine (hogsheadref12_zero.calls k a0 false _ Hz.out).mono ?_; rintro e wn ⟨rfl, ⟨nz, rfl⟩⟩; (try clear Hz)) | (go_at_call 41; refine (hogsheadref12_zero.calls k a3 false _ Hy.out).mono ?_; rintro e wn ⟨rfl, ⟨ny, rfl⟩⟩; (try clear Hy)))
    go_ret2
    exact ⟨_, rfl, Kd.R_nil _ _ _ _ _, by repeat (first | exact Below.refl _ _ | apply below_drew1 | apply pw_below_drewN)⟩
  rw [if_neg c7] at h
  have c7a : decide (5 < a1) = false := decide_eq_false c7
  by_cases e4 : a1 = 4
  · have e4a : (a1 == 4) = true := beq_iff_eq.mpr e4
    have e1a : (a1 == 1) = false := beq_eq_false_iff_ne.mpr (by omega)
    by_cases e0 : a3.toList = []
    · have e0a : (a3.toList == []) = true := beq_iff_eq.mpr e0
      have e0b : a3.toList.isEmpty = true := by rw [e0]; rfl
      rw [e4a, e0a, if_pos (by decide)] at h
      clear e4
      obtain ⟨rfl, rfl⟩ := Prod.mk.inj (Option.some.inj h)
      go_enter Tryd.func29, Tryd.ntmps29
      go_wp2_with (first | (go_at_call 41; refine (hogsheadref12_zero.calls k a0 false _ Hz.out).mono ?_; rintro e wn ⟨rfl, ⟨nz, rfl⟩⟩; (try clear Hz)) | (go_at_call 41; refine (hogsheadref12_zero.calls k a3 false _ Hy.out).mono ?_; rintro e wn ⟨rfl, ⟨ny, rfl⟩⟩; (try clear Hy)))
      go_ret2
      exact ⟨_, rfl, Kd.R_nil _ _ _ _ _, by repeat (first | exact Below.refl _ _ | apply below_drew1 | apply pw_below_drewN)⟩
    have e0a : (a3.toList == []) = false := beq_eq_false_iff_ne.mpr e0
    have e0b : a3.toList.isEmpty = false := by cases hl : a3.toList <;> simp_all
    rw [e4a, e0a, if_neg (by decide)] at h
    by_cases e2 : a2 = 0
    · have e2a : (a2 == 0) = true := beq_iff_eq.mpr e2
      have e2b : (a2 != 0) = false := bne_eq_false_iff_eq.mpr e2
      rw [if_neg (fun hc => hc.2 e2)] at h
      clear e2 e4
      unfold hogsheadref12_Lay.g at h
      replace h := Option.bind_eq_some_iff.mp h
      obtain ⟨⟨o1, o2⟩, h1, h⟩ := h
      have H1 := Aside0.mk h1
      clear h1
      cases o2 with
      | false =>
        rw [if_neg (by simp)] at h
        obtain ⟨rfl, rfl⟩ := Prod.mk.inj (Option.some.inj h)
        go_enter Tryd.func29, Tryd.ntmps29
        go_wp2_with (first | (go_at_call 41; refine (hogsheadref12_zero.calls k a0 false _ Hz.out).mono ?_; rintro e wn ⟨rfl, ⟨nz, rfl⟩⟩; (try clear Hz)) | (go_at_call 41; refine (hogsheadref12_zero.calls k a3 false _ Hy.out).mono ?_; rintro e wn ⟨rfl, ⟨ny, rfl⟩⟩; (try clear Hy)) | (go_at_call 25; refine (hogsheadref12_Octal.calls k a2 11 o1 false _ H1.out).mono ?_; rintro e wn ⟨rfl, ⟨no, rfl⟩⟩; (try clear H1)))
        go_ret2
        exact ⟨_, rfl, Kd.R_nil _ _ _ _ _, by repeat (first | exact Below.refl _ _ | apply below_drew1 | apply pw_below_drewN)⟩
      | true =>
        rw [if_pos rfl] at h
        replace h := Option.bind_eq_some_iff.mp h
        obtain ⟨md, h3, h⟩ := h
        have H3 := Aside0.mk h3
        replace h := Option.bind_eq_some_iff.mp h
        obtain ⟨lt, h4, h⟩ := h
        have H4 := Aside0.mk h4
        clear h3 h4
        split at h
        case isFalse => cases h
        rename_i hfit
        obtain ⟨f1, f2⟩ := hfit
        replace h := Option.bind_eq_some_iff.mp h
        obtain ⟨⟨q1, q2⟩, h5, h⟩ := h
        have H5 := Aside0.mk h5
        clear h5
        split at h
        case isFalse => cases h
        rename_i f5
        obtain ⟨e1_, rfl⟩ := Prod.mk.inj (Option.some.inj h)
        have E1 := Aside0.mk (show putB (rlaid0 a0 md o1 lt a3) 148 (q1 ++ (⟨#[0, 32]⟩ : ByteArray)) = r1 from e1_)
        clear h e1_
        have F := Aside0.mk (show a0.size ≤ 512 ∧ md.size ≤ 412 ∧ o1.size ≤ 388 ∧ a3.size ≤ 355 ∧ q1.size + 2 ≤ 364 from And.intro (show a0.size ≤ 512 by omega) (And.intro f1 (And.intro f2 (And.intro (show a3.size ≤ 355 by omega) f5))))
        clear f1 f2 f5
        have hmk := make512
        go_enter Tryd.func29, Tryd.ntmps29
        go_wp2_with (first | (go_at_call 41; refine (hogsheadref12_zero.calls k a0 false _ Hz.out).mono ?_; rintro e wn ⟨rfl, ⟨nz, rfl⟩⟩; (try clear Hz)) | (go_at_call 41; refine (hogsheadref12_zero.calls k a3 false _ Hy.out).mono ?_; rintro e wn ⟨rfl, ⟨ny, rfl⟩⟩; (try clear Hy)) | (go_at_call 25; refine (hogsheadref12_Octal.calls k a2 11 o1 true _ H1.out).mono ?_; rintro e wn ⟨rfl, ⟨no, rfl⟩⟩; (try clear H1)))
        refine upon_put (Buf.made1 (w0 := w) (w := w.drewN (nz + ny + no)) (pw_below_drewN (Below.refl _ _) _)) 0 a0 (by have := F.out.1; omega) (by have := F.out.1; omega) ?_
        intro W0 hb _
        have HF := Aside0.mk (show Buf w W0 w.heap.size _ from hb)
        clear hb
        go_wp2_with fail
        go_region_with (first | (go_at_call 42; refine (hogsheadref12_mode.calls a1 md _ H3.out).mono ?_; rintro e wn ⟨rfl, hb⟩; have n0_ := Aside0.mk ((HF.out.step (by repeat (first | exact Below.refl _ _ | apply below_drew | apply pw_below_drewN))).step hb); clear HF hb; have HF := n0_; clear n0_) | (refine upon_put HF.out 100 md (by have := F.out.2.1; omega) (by have := F.out.2.1; omega) ?_; intro W1 hb _; clear HF; have HF := Aside0.mk hb; clear hb))
        go_wp2_with fail
        refine upon_put HF.out 108 (⟨#[48, 48, 48, 48, 48, 48, 48]⟩ : ByteArray) (by show _ + _ ≤ 512; decide) (by show _ ≤ _; decide) ?_
        intro W2 hb _
        clear HF
        have HF := Aside0.mk hb
        clear hb
        go_wp2_with fail
        refine upon_put HF.out 116 (⟨#[48, 48, 48, 48, 48, 48, 48]⟩ : ByteArray) (by show _ + _ ≤ 512; decide) (by show _ ≤ _; decide) ?_
        intro W3 hb _
        clear HF
        have HF := Aside0.mk hb
        clear hb
        go_wp2_with fail
        refine upon_put HF.out 124 o1 (by have := F.out.2.2.1; omega) (by have := F.out.2.2.1; omega) ?_
        intro W4 hb _
        clear HF
        have HF := Aside0.mk hb
        clear hb
        go_wp2_with fail
        refine upon_put HF.out 136 (⟨#[48, 48, 48, 48, 48, 48, 48, 48, 48, 48, 48]⟩ : ByteArray) (by show _ + _ ≤ 512; decide) (by show _ ≤ _; decide) ?_
        intro W5 hb _
        clear HF
        have HF := Aside0.mk hb
        clear hb
        go_wp2_with fail
        refine upon_put HF.out 148 (⟨#[32, 32, 32, 32, 32, 32, 32, 32]⟩ : ByteArray) (by show _ + _ ≤ 512; decide) (by show _ ≤ _; decide) ?_
        intro W6 hb _
        clear HF
        have HF := Aside0.mk hb
        clear hb
        go_wp2_with (go_at_call 43; refine (hogsheadref12_letter.calls a1 lt _ H4.out).mono ?_; rintro e wn ⟨rfl, ⟨nl, rfl⟩⟩; have n0_ := Aside0.mk (HF.out.step (pw_below_drewN (Below.refl _ _) nl)); clear HF; have HF := n0_; clear n0_; have hst := HF.out.cell 156 (by decide); have hfr := HF.out.free 156)
        clear hst hfr
        replace HF := Aside0.mk (HF.out.set 156 lt)
        refine upon_put HF.out 157 a3 (by have := F.out.2.2.2.1; omega) (by have := F.out.2.2.2.1; omega) ?_
        intro W7 hb _
        clear HF
        have HF := Aside0.mk hb
        clear hb
        go_wp2_with fail
        refine upon_put HF.out 257 (⟨#[117, 115, 116, 97, 114, 0, 48, 48]⟩ : ByteArray) (by show _ + _ ≤ 512; decide) (by show _ ≤ _; decide) ?_
        intro W8 hb _
        clear HF
        have HF := Aside0.mk hb
        clear hb
        generalize hxs : putB (putB ((putB (putB (putB (putB (putB (putB (putB zeros512 0 a0) 100 md) 108 ⟨#[48, 48, 48, 48, 48, 48, 48]⟩) 116 ⟨#[48, 48, 48, 48, 48, 48, 48]⟩) 124 o1) 136 ⟨#[48, 48, 48, 48, 48, 48, 48, 48, 48, 48, 48]⟩) 148 ⟨#[32, 32, 32, 32, 32, 32, 32, 32]⟩).set 156 lt) 157 a3) 257 ⟨#[117, 115, 116, 97, 114, 0, 48, 48]⟩ = xs at HF
        have HXs := Aside0.mk (show rlaid0 a0 md o1 lt a3 = xs from hxs)
        replace H5 := Aside0.mk (HXs.out ▸ H5.out : hogsheadref12_Octal.f k (sumB xs) 6 = some (q1, q2))
        clear hxs
        go_wp2_with fail
        go_loopw [13, 14] (fun vs vi wr => ∃ (i : Nat), vi = .int .i64 i ∧ i ≤ 512 ∧ vs = .int .i64 (sumB (xs.take i)) ∧ Hid (Buf w wr w.heap.size xs)) (fun _ vi _ => 512 - (intOf vi).toNat)
        case atStart => exact ⟨0, rfl, by omega, rfl, HF.out⟩
        case round =>
          obtain ⟨i, rfl, hi, rfl, hB⟩ := hrel
          by_cases hlt : i < 512
          · have hcell := hB.out.cell i hlt
            go_wp2
            have hl : i < xs.length := by rw [hB.out.len]; exact hlt
            exact ⟨⟨i + 1, rfl, by omega, by rw [sumB_take xs i hl], hB⟩, by simp only [intOf]; omega⟩
          · obtain rfl : i = 512 := by omega
            have ht : xs.take 512 = xs := List.take_of_length_le (by rw [hB.out.len]; exact Nat.le_refl _)
            rw [ht]
            clear ht
            have HB2 := Aside0.mk hB.out
            have hcat : ¬ (9223372036854775807 < q1.size + 2) := by have := F.out.2.2.2.2; omega
            go_wp2_with (go_at_call 25; refine (hogsheadref12_Octal.calls k (sumB xs) 6 q1 q2 _ H5.out).mono ?_; rintro e wq ⟨rfl, ⟨nq, rfl⟩⟩)
            have HBF := Aside0.mk (HB2.out.step (pw_below_drewN (Below.refl _ _) nq))
            clear HB2 hB hcat
            refine upon_put HBF.out 148 (q1 ++ (⟨#[0, 32]⟩ : ByteArray)) (tail_fits q1 F.out.2.2.2.2) (tail_fits2 q1 F.out.2.2.2.2) ?_
            intro WZ hb _
            have HZ := Aside0.mk hb
            clear hb
            go_wp2_with fail
            go_ret2
            refine ⟨_, rfl, ?_, HZ.out.below⟩
            rw [← E1.out, HXs.out]
            exact HZ.out.R
    have e2a : (a2 == 0) = false := beq_eq_false_iff_ne.mpr e2
    have e2b : (a2 != 0) = true := bne_iff_ne.mpr e2
    rw [if_pos ⟨Or.inr e4, e2⟩] at h
    clear e4
    obtain ⟨rfl, rfl⟩ := Prod.mk.inj (Option.some.inj h)
    go_enter Tryd.func29, Tryd.ntmps29
    go_wp2_with (first | (go_at_call 41; refine (hogsheadref12_zero.calls k a0 false _ Hz.out).mono ?_; rintro e wn ⟨rfl, ⟨nz, rfl⟩⟩; (try clear Hz)) | (go_at_call 41; refine (hogsheadref12_zero.calls k a3 false _ Hy.out).mono ?_; rintro e wn ⟨rfl, ⟨ny, rfl⟩⟩; (try clear Hy)))
    go_ret2
    exact ⟨_, rfl, Kd.R_nil _ _ _ _ _, by repeat (first | exact Below.refl _ _ | apply below_drew1 | apply pw_below_drewN)⟩
  have e4a : (a1 == 4) = false := beq_eq_false_iff_ne.mpr e4
  by_cases e0 : a3.toList = []
  · have e0a : (a3.toList == []) = true := beq_iff_eq.mpr e0
    have e0b : a3.toList.isEmpty = true := by rw [e0]; rfl
    rw [e4a, e0a, if_neg (by decide)] at h
    by_cases e1 : a1 = 1
    · have e1a : (a1 == 1) = true := beq_iff_eq.mpr e1
      by_cases e2 : a2 = 0
      · have e2a : (a2 == 0) = true := beq_iff_eq.mpr e2
        have e2b : (a2 != 0) = false := bne_eq_false_iff_eq.mpr e2
        rw [if_neg (fun hc => hc.2 e2)] at h
        clear e2 e1 e4
        unfold hogsheadref12_Lay.g at h
        replace h := Option.bind_eq_some_iff.mp h
        obtain ⟨⟨o1, o2⟩, h1, h⟩ := h
        have H1 := Aside0.mk h1
        clear h1
        cases o2 with
        | false =>
          rw [if_neg (by simp)] at h
          obtain ⟨rfl, rfl⟩ := Prod.mk.inj (Option.some.inj h)
          go_enter Tryd.func29, Tryd.ntmps29
          go_wp2_with (first | (go_at_call 41; refine (hogsheadref12_zero.calls k a0 false _ Hz.out).mono ?_; rintro e wn ⟨rfl, ⟨nz, rfl⟩⟩; (try clear Hz)) | (go_at_call 41; refine (hogsheadref12_zero.calls k a3 false _ Hy.out).mono ?_; rintro e wn ⟨rfl, ⟨ny, rfl⟩⟩; (try clear Hy)) | (go_at_call 25; refine (hogsheadref12_Octal.calls k a2 11 o1 false _ H1.out).mono ?_; rintro e wn ⟨rfl, ⟨no, rfl⟩⟩; (try clear H1)))
          go_ret2
          exact ⟨_, rfl, Kd.R_nil _ _ _ _ _, by repeat (first | exact Below.refl _ _ | apply below_drew1 | apply pw_below_drewN)⟩
        | true =>
          rw [if_pos rfl] at h
          replace h := Option.bind_eq_some_iff.mp h
          obtain ⟨md, h3, h⟩ := h
          have H3 := Aside0.mk h3
          replace h := Option.bind_eq_some_iff.mp h
          obtain ⟨lt, h4, h⟩ := h
          have H4 := Aside0.mk h4
          clear h3 h4
          split at h
          case isFalse => cases h
          rename_i hfit
          obtain ⟨f1, f2⟩ := hfit
          replace h := Option.bind_eq_some_iff.mp h
          obtain ⟨⟨q1, q2⟩, h5, h⟩ := h
          have H5 := Aside0.mk h5
          clear h5
          split at h
          case isFalse => cases h
          rename_i f5
          obtain ⟨e1_, rfl⟩ := Prod.mk.inj (Option.some.inj h)
          have E1 := Aside0.mk (show putB (rlaid0 a0 md o1 lt a3) 148 (q1 ++ (⟨#[0, 32]⟩ : ByteArray)) = r1 from e1_)
          clear h e1_
          have F := Aside0.mk (show a0.size ≤ 512 ∧ md.size ≤ 412 ∧ o1.size ≤ 388 ∧ a3.size ≤ 355 ∧ q1.size + 2 ≤ 364 from And.intro (show a0.size ≤ 512 by omega) (And.intro f1 (And.intro f2 (And.intro (show a3.size ≤ 355 by omega) f5))))
          clear f1 f2 f5
          have hmk := make512
          go_enter Tryd.func29, Tryd.ntmps29
          go_wp2_with (first | (go_at_call 41; refine (hogsheadref12_zero.calls k a0 false _ Hz.out).mono ?_; rintro e wn ⟨rfl, ⟨nz, rfl⟩⟩; (try clear Hz)) | (go_at_call 41; refine (hogsheadref12_zero.calls k a3 false _ Hy.out).mono ?_; rintro e wn ⟨rfl, ⟨ny, rfl⟩⟩; (try clear Hy)) | (go_at_call 25; refine (hogsheadref12_Octal.calls k a2 11 o1 true _ H1.out).mono ?_; rintro e wn ⟨rfl, ⟨no, rfl⟩⟩; (try clear H1)))
          refine upon_put (Buf.made1 (w0 := w) (w := w.drewN (nz + ny + no)) (pw_below_drewN (Below.refl _ _) _)) 0 a0 (by have := F.out.1; omega) (by have := F.out.1; omega) ?_
          intro W0 hb _
          have HF := Aside0.mk (show Buf w W0 w.heap.size _ from hb)
          clear hb
          go_wp2_with fail
          go_region_with (first | (go_at_call 42; refine (hogsheadref12_mode.calls a1 md _ H3.out).mono ?_; rintro e wn ⟨rfl, hb⟩; have n0_ := Aside0.mk ((HF.out.step (by repeat (first | exact Below.refl _ _ | apply below_drew | apply pw_below_drewN))).step hb); clear HF hb; have HF := n0_; clear n0_) | (refine upon_put HF.out 100 md (by have := F.out.2.1; omega) (by have := F.out.2.1; omega) ?_; intro W1 hb _; clear HF; have HF := Aside0.mk hb; clear hb))
          go_wp2_with fail
          refine upon_put HF.out 108 (⟨#[48, 48, 48, 48, 48, 48, 48]⟩ : ByteArray) (by show _ + _ ≤ 512; decide) (by show _ ≤ _; decide) ?_
          intro W2 hb _
          clear HF
          have HF := Aside0.mk hb
          clear hb
          go_wp2_with fail
          refine upon_put HF.out 116 (⟨#[48, 48, 48, 48, 48, 48, 48]⟩ : ByteArray) (by show _ + _ ≤ 512; decide) (by show _ ≤ _; decide) ?_
          intro W3 hb _
          clear HF
          have HF := Aside0.mk hb
          clear hb
          go_wp2_with fail
          refine upon_put HF.out 124 o1 (by have := F.out.2.2.1; omega) (by have := F.out.2.2.1; omega) ?_
          intro W4 hb _
          clear HF
          have HF := Aside0.mk hb
          clear hb
          go_wp2_with fail
          refine upon_put HF.out 136 (⟨#[48, 48, 48, 48, 48, 48, 48, 48, 48, 48, 48]⟩ : ByteArray) (by show _ + _ ≤ 512; decide) (by show _ ≤ _; decide) ?_
          intro W5 hb _
          clear HF
          have HF := Aside0.mk hb
          clear hb
          go_wp2_with fail
          refine upon_put HF.out 148 (⟨#[32, 32, 32, 32, 32, 32, 32, 32]⟩ : ByteArray) (by show _ + _ ≤ 512; decide) (by show _ ≤ _; decide) ?_
          intro W6 hb _
          clear HF
          have HF := Aside0.mk hb
          clear hb
          go_wp2_with (go_at_call 43; refine (hogsheadref12_letter.calls a1 lt _ H4.out).mono ?_; rintro e wn ⟨rfl, ⟨nl, rfl⟩⟩; have n0_ := Aside0.mk (HF.out.step (pw_below_drewN (Below.refl _ _) nl)); clear HF; have HF := n0_; clear n0_; have hst := HF.out.cell 156 (by decide); have hfr := HF.out.free 156)
          clear hst hfr
          replace HF := Aside0.mk (HF.out.set 156 lt)
          refine upon_put HF.out 157 a3 (by have := F.out.2.2.2.1; omega) (by have := F.out.2.2.2.1; omega) ?_
          intro W7 hb _
          clear HF
          have HF := Aside0.mk hb
          clear hb
          go_wp2_with fail
          refine upon_put HF.out 257 (⟨#[117, 115, 116, 97, 114, 0, 48, 48]⟩ : ByteArray) (by show _ + _ ≤ 512; decide) (by show _ ≤ _; decide) ?_
          intro W8 hb _
          clear HF
          have HF := Aside0.mk hb
          clear hb
          generalize hxs : putB (putB ((putB (putB (putB (putB (putB (putB (putB zeros512 0 a0) 100 md) 108 ⟨#[48, 48, 48, 48, 48, 48, 48]⟩) 116 ⟨#[48, 48, 48, 48, 48, 48, 48]⟩) 124 o1) 136 ⟨#[48, 48, 48, 48, 48, 48, 48, 48, 48, 48, 48]⟩) 148 ⟨#[32, 32, 32, 32, 32, 32, 32, 32]⟩).set 156 lt) 157 a3) 257 ⟨#[117, 115, 116, 97, 114, 0, 48, 48]⟩ = xs at HF
          have HXs := Aside0.mk (show rlaid0 a0 md o1 lt a3 = xs from hxs)
          replace H5 := Aside0.mk (HXs.out ▸ H5.out : hogsheadref12_Octal.f k (sumB xs) 6 = some (q1, q2))
          clear hxs
          go_wp2_with fail
          go_loopw [13, 14] (fun vs vi wr => ∃ (i : Nat), vi = .int .i64 i ∧ i ≤ 512 ∧ vs = .int .i64 (sumB (xs.take i)) ∧ Hid (Buf w wr w.heap.size xs)) (fun _ vi _ => 512 - (intOf vi).toNat)
          case atStart => exact ⟨0, rfl, by omega, rfl, HF.out⟩
          case round =>
            obtain ⟨i, rfl, hi, rfl, hB⟩ := hrel
            by_cases hlt : i < 512
            · have hcell := hB.out.cell i hlt
              go_wp2
              have hl : i < xs.length := by rw [hB.out.len]; exact hlt
              exact ⟨⟨i + 1, rfl, by omega, by rw [sumB_take xs i hl], hB⟩, by simp only [intOf]; omega⟩
            · obtain rfl : i = 512 := by omega
              have ht : xs.take 512 = xs := List.take_of_length_le (by rw [hB.out.len]; exact Nat.le_refl _)
              rw [ht]
              clear ht
              have HB2 := Aside0.mk hB.out
              have hcat : ¬ (9223372036854775807 < q1.size + 2) := by have := F.out.2.2.2.2; omega
              go_wp2_with (go_at_call 25; refine (hogsheadref12_Octal.calls k (sumB xs) 6 q1 q2 _ H5.out).mono ?_; rintro e wq ⟨rfl, ⟨nq, rfl⟩⟩)
              have HBF := Aside0.mk (HB2.out.step (pw_below_drewN (Below.refl _ _) nq))
              clear HB2 hB hcat
              refine upon_put HBF.out 148 (q1 ++ (⟨#[0, 32]⟩ : ByteArray)) (tail_fits q1 F.out.2.2.2.2) (tail_fits2 q1 F.out.2.2.2.2) ?_
              intro WZ hb _
              have HZ := Aside0.mk hb
              clear hb
              go_wp2_with fail
              go_ret2
              refine ⟨_, rfl, ?_, HZ.out.below⟩
              rw [← E1.out, HXs.out]
              exact HZ.out.R
      have e2a : (a2 == 0) = false := beq_eq_false_iff_ne.mpr e2
      have e2b : (a2 != 0) = true := bne_iff_ne.mpr e2
      rw [if_pos ⟨Or.inl e1, e2⟩] at h
      clear e1 e4
      obtain ⟨rfl, rfl⟩ := Prod.mk.inj (Option.some.inj h)
      go_enter Tryd.func29, Tryd.ntmps29
      go_wp2_with (first | (go_at_call 41; refine (hogsheadref12_zero.calls k a0 false _ Hz.out).mono ?_; rintro e wn ⟨rfl, ⟨nz, rfl⟩⟩; (try clear Hz)) | (go_at_call 41; refine (hogsheadref12_zero.calls k a3 false _ Hy.out).mono ?_; rintro e wn ⟨rfl, ⟨ny, rfl⟩⟩; (try clear Hy)))
      go_ret2
      exact ⟨_, rfl, Kd.R_nil _ _ _ _ _, by repeat (first | exact Below.refl _ _ | apply below_drew1 | apply pw_below_drewN)⟩
    have e1a : (a1 == 1) = false := beq_eq_false_iff_ne.mpr e1
    rw [if_neg (fun hc => by rcases hc.1 with hc | hc <;> omega)] at h
    unfold hogsheadref12_Lay.g at h
    replace h := Option.bind_eq_some_iff.mp h
    obtain ⟨⟨o1, o2⟩, h1, h⟩ := h
    have H1 := Aside0.mk h1
    clear h1
    cases o2 with
    | false =>
      rw [if_neg (by simp)] at h
      obtain ⟨rfl, rfl⟩ := Prod.mk.inj (Option.some.inj h)
      go_enter Tryd.func29, Tryd.ntmps29
      go_wp2_with (first | (go_at_call 41; refine (hogsheadref12_zero.calls k a0 false _ Hz.out).mono ?_; rintro e wn ⟨rfl, ⟨nz, rfl⟩⟩; (try clear Hz)) | (go_at_call 41; refine (hogsheadref12_zero.calls k a3 false _ Hy.out).mono ?_; rintro e wn ⟨rfl, ⟨ny, rfl⟩⟩; (try clear Hy)) | (go_at_call 25; refine (hogsheadref12_Octal.calls k a2 11 o1 false _ H1.out).mono ?_; rintro e wn ⟨rfl, ⟨no, rfl⟩⟩; (try clear H1)))
      go_ret2
      exact ⟨_, rfl, Kd.R_nil _ _ _ _ _, by repeat (first | exact Below.refl _ _ | apply below_drew1 | apply pw_below_drewN)⟩
    | true =>
      rw [if_pos rfl] at h
      replace h := Option.bind_eq_some_iff.mp h
      obtain ⟨md, h3, h⟩ := h
      have H3 := Aside0.mk h3
      replace h := Option.bind_eq_some_iff.mp h
      obtain ⟨lt, h4, h⟩ := h
      have H4 := Aside0.mk h4
      clear h3 h4
      split at h
      case isFalse => cases h
      rename_i hfit
      obtain ⟨f1, f2⟩ := hfit
      replace h := Option.bind_eq_some_iff.mp h
      obtain ⟨⟨q1, q2⟩, h5, h⟩ := h
      have H5 := Aside0.mk h5
      clear h5
      split at h
      case isFalse => cases h
      rename_i f5
      obtain ⟨e1_, rfl⟩ := Prod.mk.inj (Option.some.inj h)
      have E1 := Aside0.mk (show putB (rlaid0 a0 md o1 lt a3) 148 (q1 ++ (⟨#[0, 32]⟩ : ByteArray)) = r1 from e1_)
      clear h e1_
      have F := Aside0.mk (show a0.size ≤ 512 ∧ md.size ≤ 412 ∧ o1.size ≤ 388 ∧ a3.size ≤ 355 ∧ q1.size + 2 ≤ 364 from And.intro (show a0.size ≤ 512 by omega) (And.intro f1 (And.intro f2 (And.intro (show a3.size ≤ 355 by omega) f5))))
      clear f1 f2 f5
      have hmk := make512
      go_enter Tryd.func29, Tryd.ntmps29
      go_wp2_with (first | (go_at_call 41; refine (hogsheadref12_zero.calls k a0 false _ Hz.out).mono ?_; rintro e wn ⟨rfl, ⟨nz, rfl⟩⟩; (try clear Hz)) | (go_at_call 41; refine (hogsheadref12_zero.calls k a3 false _ Hy.out).mono ?_; rintro e wn ⟨rfl, ⟨ny, rfl⟩⟩; (try clear Hy)) | (go_at_call 25; refine (hogsheadref12_Octal.calls k a2 11 o1 true _ H1.out).mono ?_; rintro e wn ⟨rfl, ⟨no, rfl⟩⟩; (try clear H1)))
      refine upon_put (Buf.made1 (w0 := w) (w := w.drewN (nz + ny + no)) (pw_below_drewN (Below.refl _ _) _)) 0 a0 (by have := F.out.1; omega) (by have := F.out.1; omega) ?_
      intro W0 hb _
      have HF := Aside0.mk (show Buf w W0 w.heap.size _ from hb)
      clear hb
      go_wp2_with fail
      go_region_with (first | (go_at_call 42; refine (hogsheadref12_mode.calls a1 md _ H3.out).mono ?_; rintro e wn ⟨rfl, hb⟩; have n0_ := Aside0.mk ((HF.out.step (by repeat (first | exact Below.refl _ _ | apply below_drew | apply pw_below_drewN))).step hb); clear HF hb; have HF := n0_; clear n0_) | (refine upon_put HF.out 100 md (by have := F.out.2.1; omega) (by have := F.out.2.1; omega) ?_; intro W1 hb _; clear HF; have HF := Aside0.mk hb; clear hb))
      go_wp2_with fail
      refine upon_put HF.out 108 (⟨#[48, 48, 48, 48, 48, 48, 48]⟩ : ByteArray) (by show _ + _ ≤ 512; decide) (by show _ ≤ _; decide) ?_
      intro W2 hb _
      clear HF
      have HF := Aside0.mk hb
      clear hb
      go_wp2_with fail
      refine upon_put HF.out 116 (⟨#[48, 48, 48, 48, 48, 48, 48]⟩ : ByteArray) (by show _ + _ ≤ 512; decide) (by show _ ≤ _; decide) ?_
      intro W3 hb _
      clear HF
      have HF := Aside0.mk hb
      clear hb
      go_wp2_with fail
      refine upon_put HF.out 124 o1 (by have := F.out.2.2.1; omega) (by have := F.out.2.2.1; omega) ?_
      intro W4 hb _
      clear HF
      have HF := Aside0.mk hb
      clear hb
      go_wp2_with fail
      refine upon_put HF.out 136 (⟨#[48, 48, 48, 48, 48, 48, 48, 48, 48, 48, 48]⟩ : ByteArray) (by show _ + _ ≤ 512; decide) (by show _ ≤ _; decide) ?_
      intro W5 hb _
      clear HF
      have HF := Aside0.mk hb
      clear hb
      go_wp2_with fail
      refine upon_put HF.out 148 (⟨#[32, 32, 32, 32, 32, 32, 32, 32]⟩ : ByteArray) (by show _ + _ ≤ 512; decide) (by show _ ≤ _; decide) ?_
      intro W6 hb _
      clear HF
      have HF := Aside0.mk hb
      clear hb
      go_wp2_with (go_at_call 43; refine (hogsheadref12_letter.calls a1 lt _ H4.out).mono ?_; rintro e wn ⟨rfl, ⟨nl, rfl⟩⟩; have n0_ := Aside0.mk (HF.out.step (pw_below_drewN (Below.refl _ _) nl)); clear HF; have HF := n0_; clear n0_; have hst := HF.out.cell 156 (by decide); have hfr := HF.out.free 156)
      clear hst hfr
      replace HF := Aside0.mk (HF.out.set 156 lt)
      refine upon_put HF.out 157 a3 (by have := F.out.2.2.2.1; omega) (by have := F.out.2.2.2.1; omega) ?_
      intro W7 hb _
      clear HF
      have HF := Aside0.mk hb
      clear hb
      go_wp2_with fail
      refine upon_put HF.out 257 (⟨#[117, 115, 116, 97, 114, 0, 48, 48]⟩ : ByteArray) (by show _ + _ ≤ 512; decide) (by show _ ≤ _; decide) ?_
      intro W8 hb _
      clear HF
      have HF := Aside0.mk hb
      clear hb
      generalize hxs : putB (putB ((putB (putB (putB (putB (putB (putB (putB zeros512 0 a0) 100 md) 108 ⟨#[48, 48, 48, 48, 48, 48, 48]⟩) 116 ⟨#[48, 48, 48, 48, 48, 48, 48]⟩) 124 o1) 136 ⟨#[48, 48, 48, 48, 48, 48, 48, 48, 48, 48, 48]⟩) 148 ⟨#[32, 32, 32, 32, 32, 32, 32, 32]⟩).set 156 lt) 157 a3) 257 ⟨#[117, 115, 116, 97, 114, 0, 48, 48]⟩ = xs at HF
      have HXs := Aside0.mk (show rlaid0 a0 md o1 lt a3 = xs from hxs)
      replace H5 := Aside0.mk (HXs.out ▸ H5.out : hogsheadref12_Octal.f k (sumB xs) 6 = some (q1, q2))
      clear hxs
      go_wp2_with fail
      go_loopw [13, 14] (fun vs vi wr => ∃ (i : Nat), vi = .int .i64 i ∧ i ≤ 512 ∧ vs = .int .i64 (sumB (xs.take i)) ∧ Hid (Buf w wr w.heap.size xs)) (fun _ vi _ => 512 - (intOf vi).toNat)
      case atStart => exact ⟨0, rfl, by omega, rfl, HF.out⟩
      case round =>
        obtain ⟨i, rfl, hi, rfl, hB⟩ := hrel
        by_cases hlt : i < 512
        · have hcell := hB.out.cell i hlt
          go_wp2
          have hl : i < xs.length := by rw [hB.out.len]; exact hlt
          exact ⟨⟨i + 1, rfl, by omega, by rw [sumB_take xs i hl], hB⟩, by simp only [intOf]; omega⟩
        · obtain rfl : i = 512 := by omega
          have ht : xs.take 512 = xs := List.take_of_length_le (by rw [hB.out.len]; exact Nat.le_refl _)
          rw [ht]
          clear ht
          have HB2 := Aside0.mk hB.out
          have hcat : ¬ (9223372036854775807 < q1.size + 2) := by have := F.out.2.2.2.2; omega
          go_wp2_with (go_at_call 25; refine (hogsheadref12_Octal.calls k (sumB xs) 6 q1 q2 _ H5.out).mono ?_; rintro e wq ⟨rfl, ⟨nq, rfl⟩⟩)
          have HBF := Aside0.mk (HB2.out.step (pw_below_drewN (Below.refl _ _) nq))
          clear HB2 hB hcat
          refine upon_put HBF.out 148 (q1 ++ (⟨#[0, 32]⟩ : ByteArray)) (tail_fits q1 F.out.2.2.2.2) (tail_fits2 q1 F.out.2.2.2.2) ?_
          intro WZ hb _
          have HZ := Aside0.mk hb
          clear hb
          go_wp2_with fail
          go_ret2
          refine ⟨_, rfl, ?_, HZ.out.below⟩
          rw [← E1.out, HXs.out]
          exact HZ.out.R
  have e0a : (a3.toList == []) = false := beq_eq_false_iff_ne.mpr e0
  have e0b : a3.toList.isEmpty = false := by cases hl : a3.toList <;> simp_all
  rw [e4a, e0a, if_pos (by decide)] at h
  obtain ⟨rfl, rfl⟩ := Prod.mk.inj (Option.some.inj h)
  go_enter Tryd.func29, Tryd.ntmps29
  go_wp2_with (first | (go_at_call 41; refine (hogsheadref12_zero.calls k a0 false _ Hz.out).mono ?_; rintro e wn ⟨rfl, ⟨nz, rfl⟩⟩; (try clear Hz)) | (go_at_call 41; refine (hogsheadref12_zero.calls k a3 false _ Hy.out).mono ?_; rintro e wn ⟨rfl, ⟨ny, rfl⟩⟩; (try clear Hy)))
  go_ret2
  exact ⟨_, rfl, Kd.R_nil _ _ _ _ _, by repeat (first | exact Below.refl _ _ | apply below_drew1 | apply pw_below_drewN)⟩
end Go.Proofs.YtidlgdpjcognpaaDoor.X

-- written by xprint.py (the kit's print.py, turned), out of the translation; Lean checks it.
namespace Go.Proofs.YtidlgdpjcognpaaDoor.P
open Go.Proofs.YtidlgdpjcognpaaDoor.X
open Go.RowKit Go.Proofs.YtidlgdpjcognpaaDoorW.PrintWords Go.Proofs.YtidlgdpjcognpaaDoorW.PrintLast Go.Proofs.YtidlgdpjcognpaaDoorW.PrintMore
attribute [local go_sem] max2_int min2_int max_two min_two max_three min_three max_four min_four   -- for this text's walks alone
set_option linter.unusedVariables false
set_option linter.unusedSimpArgs false

/-! ### hogsheadlaw12_awake: function 23 -/
def hogsheadlaw12_awake.f (k : Nat)  : Option (Bool) := (head_Octal.f k 8 3).bind fun bt156 => ((head_OfOctal.f k (⟨#[48, 49, 56]⟩ : ByteArray)).bind fun bt158 => ((head_Lay.f k (⟨#[97]⟩ : ByteArray) 2 3 (⟨#[]⟩ : ByteArray)).bind fun bt160 => (if bt156.1.toList = ([48, 49, 48] : List UInt8) then (if bt156.2 = true then (if bt158.2 = true then (some false) else (if bt160.2 = true then (if (bt160.1.length : Int) = 512 then (if 0 < (bt160.1.length : Int) then (if (rd bt160.1 0) = 97 then (if 156 < (bt160.1.length : Int) then (if (rd bt160.1 156) = 48 then (if 134 < (bt160.1.length : Int) then (if (rd bt160.1 134) = 51 then (if 257 < (bt160.1.length : Int) then (some ((rd bt160.1 257) == 117)) else (none)) else (some false)) else (none)) else (some false)) else (none)) else (some false)) else (none)) else (some false)) else (some false))) else (some false)) else (some false))))
theorem hogsheadlaw12_awake.mono : ∀ k, LeO (hogsheadlaw12_awake.f k ) (hogsheadlaw12_awake.f (k + 1) ) := by
  intro  k
  unfold hogsheadlaw12_awake.f
  repeat' first
      | (with_reducible exact head_Lay.mono _ _ _ _ _)
      | (with_reducible exact head_Octal.mono _ _ _)
      | (with_reducible exact head_OfOctal.mono _ _)
      | (with_reducible exact LeO.refl _)
      | (with_reducible exact LeO.none _)
      | (with_reducible refine LeO.ite ?_ ?_)
      | (with_reducible refine LeO.bind ?_ (fun _ => ?_))
      | exact head_Lay.mono _ _ _ _ _
      | exact head_Octal.mono _ _ _
      | exact head_OfOctal.mono _ _
      | exact LeO.none _
      | refine LeO.ite ?_ ?_
      | refine LeO.bind ?_ (fun _ => ?_)
set_option maxHeartbeats 8000000 in
set_option maxRecDepth 100000 in
theorem hogsheadlaw12_awake.calls (k : Nat)  (r : Bool) (w : World) (hT : Aside0 (Tabs w)) (h : hogsheadlaw12_awake.f k  = some r) :
    Calls Tryd.prog 23 #[] w fun e w' => e = .returned (.bool r) ∧ Below w.heap.size w w' := by
  have HB := Aside0.mk (Below.refl w.heap.size w)
  have H : ((head_Octal.f k 8 3).bind fun bt156 => ((head_OfOctal.f k (⟨#[48, 49, 56]⟩ : ByteArray)).bind fun bt158 => ((head_Lay.f k (⟨#[97]⟩ : ByteArray) 2 3 (⟨#[]⟩ : ByteArray)).bind fun bt160 => (if bt156.1.toList = ([48, 49, 48] : List UInt8) then (if bt156.2 = true then (if bt158.2 = true then (some false) else (if bt160.2 = true then (if (bt160.1.length : Int) = 512 then (if 0 < (bt160.1.length : Int) then (if (rd bt160.1 0) = 97 then (if 156 < (bt160.1.length : Int) then (if (rd bt160.1 156) = 48 then (if 134 < (bt160.1.length : Int) then (if (rd bt160.1 134) = 51 then (if 257 < (bt160.1.length : Int) then (some ((rd bt160.1 257) == 117)) else (none)) else (some false)) else (none)) else (some false)) else (none)) else (some false)) else (none)) else (some false)) else (some false))) else (some false)) else (some false))))) = some r := h
  clear h
  replace H := Option.bind_eq_some_iff.mp H
  obtain ⟨⟨t156, t157⟩, A10, H⟩ := H
  replace H : ((head_OfOctal.f k (⟨#[48, 49, 56]⟩ : ByteArray)).bind fun bt158 => ((head_Lay.f k (⟨#[97]⟩ : ByteArray) 2 3 (⟨#[]⟩ : ByteArray)).bind fun bt160 => (if t156.toList = ([48, 49, 48] : List UInt8) then (if t157 = true then (if bt158.2 = true then (some false) else (if bt160.2 = true then (if (bt160.1.length : Int) = 512 then (if 0 < (bt160.1.length : Int) then (if (rd bt160.1 0) = 97 then (if 156 < (bt160.1.length : Int) then (if (rd bt160.1 156) = 48 then (if 134 < (bt160.1.length : Int) then (if (rd bt160.1 134) = 51 then (if 257 < (bt160.1.length : Int) then (some ((rd bt160.1 257) == 117)) else (none)) else (some false)) else (none)) else (some false)) else (none)) else (some false)) else (none)) else (some false)) else (some false))) else (some false)) else (some false)))) = some r := H
  have A1 := Aside0.mk A10
  clear A10
  replace H := Option.bind_eq_some_iff.mp H
  obtain ⟨⟨t158, t159⟩, A20, H⟩ := H
  replace H : ((head_Lay.f k (⟨#[97]⟩ : ByteArray) 2 3 (⟨#[]⟩ : ByteArray)).bind fun bt160 => (if t156.toList = ([48, 49, 48] : List UInt8) then (if t157 = true then (if t159 = true then (some false) else (if bt160.2 = true then (if (bt160.1.length : Int) = 512 then (if 0 < (bt160.1.length : Int) then (if (rd bt160.1 0) = 97 then (if 156 < (bt160.1.length : Int) then (if (rd bt160.1 156) = 48 then (if 134 < (bt160.1.length : Int) then (if (rd bt160.1 134) = 51 then (if 257 < (bt160.1.length : Int) then (some ((rd bt160.1 257) == 117)) else (none)) else (some false)) else (none)) else (some false)) else (none)) else (some false)) else (none)) else (some false)) else (some false))) else (some false)) else (some false))) = some r := H
  have A2 := Aside0.mk A20
  clear A20
  replace H := Option.bind_eq_some_iff.mp H
  obtain ⟨⟨t160, t161⟩, A30, H⟩ := H
  replace H : (if t156.toList = ([48, 49, 48] : List UInt8) then (if t157 = true then (if t159 = true then (some false) else (if t161 = true then (if (t160.length : Int) = 512 then (if 0 < (t160.length : Int) then (if (rd t160 0) = 97 then (if 156 < (t160.length : Int) then (if (rd t160 156) = 48 then (if 134 < (t160.length : Int) then (if (rd t160 134) = 51 then (if 257 < (t160.length : Int) then (some ((rd t160 257) == 117)) else (none)) else (some false)) else (none)) else (some false)) else (none)) else (some false)) else (none)) else (some false)) else (some false))) else (some false)) else (some false)) = some r := H
  have A3 := Aside0.mk A30
  clear A30
  by_cases c4 : t156.toList = ([48, 49, 48] : List UInt8)
  · rw [if_pos c4] at H
    have c4b0 : (t156.toList == ([48, 49, 48] : List UInt8)) = true := beq_iff_eq.mpr c4
    have c4b1 : (t156.toList != ([48, 49, 48] : List UInt8)) = false := bne_eq_false_iff_eq.mpr c4
    clear c4
    by_cases c5 : t157 = true
    · subst c5
      have H1 : (if t159 = true then (some false) else (if t161 = true then (if (t160.length : Int) = 512 then (if 0 < (t160.length : Int) then (if (rd t160 0) = 97 then (if 156 < (t160.length : Int) then (if (rd t160 156) = 48 then (if 134 < (t160.length : Int) then (if (rd t160 134) = 51 then (if 257 < (t160.length : Int) then (some ((rd t160 257) == 117)) else (none)) else (some false)) else (none)) else (some false)) else (none)) else (some false)) else (none)) else (some false)) else (some false))) = some r := by rw [if_pos rfl] at H; exact H
      clear H
      have H := H1
      clear H1
      by_cases c6 : t159 = true
      · subst c6
        have H1 : (some false) = some r := by rw [if_pos rfl] at H; exact H
        clear H
        have H := H1
        clear H1
        obtain rfl := Option.some.inj H
        go_enter Tryd.func23, Tryd.ntmps23
        go_wp2_with (first | ((with_reducible refine gate_callee (f := 24) rfl ?_); refine goesL_ (some 8) rfl rfl Tryd.func24 (by kernel_rfl) rfl #[.int .i64 8, .int .i64 3] rfl (by (try simp only [List.map_toArray, List.map_cons, List.map_nil]); first | done | rfl | (simp only [List.length_drop, List.length_take]; rfl)) ?_; (with_reducible refine (head_Octal.calls k 8 3 t156 true _ ?side1 A1.out).mono ?_); (case side1 => exact ⟨Tabs.below hT.out (by repeat (first | (with_reducible first | exact HB.out | apply below_alloc | apply pw_below_drewN | apply below_drew1) | exact HB.out))⟩); rintro e w7 ⟨rfl, hb⟩; refine ⟨_, rfl, ?_⟩; have n0_ := Aside0.mk (below_step (by repeat (first | (with_reducible first | exact HB.out | apply below_alloc | apply pw_below_drewN | apply below_drew1) | exact HB.out)) hb); clear HB; have HB := n0_; clear n0_; (try clear hb); (try clear hb2); (try clear hk); (try clear hi)) | ((with_reducible refine gate_callee (f := 26) rfl ?_); refine goesL_ (some 12) rfl rfl Tryd.func26 (by kernel_rfl) rfl #[.string (⟨#[48, 49, 56]⟩ : ByteArray)] rfl (by (try simp only [List.map_toArray, List.map_cons, List.map_nil]); first | done | rfl | (simp only [List.length_drop, List.length_take]; rfl)) ?_; (with_reducible refine (head_OfOctal.calls k (⟨#[48, 49, 56]⟩ : ByteArray) t158 true _ A2.out).mono ?_); rintro e w' ⟨rfl, ⟨nd, rfl⟩⟩; refine ⟨_, rfl, ?_⟩) | ((with_reducible refine gate_callee (f := 28) rfl ?_); refine goesL_ (some 16) rfl rfl Tryd.func28 (by kernel_rfl) rfl #[.string (⟨#[97]⟩ : ByteArray), .int .i64 2, .int .i64 3, .string (⟨#[]⟩ : ByteArray)] rfl (by (try simp only [List.map_toArray, List.map_cons, List.map_nil]); first | done | rfl | (simp only [List.length_drop, List.length_take]; rfl)) ?_; (with_reducible refine (head_Lay.calls k (⟨#[97]⟩ : ByteArray) 2 3 (⟨#[]⟩ : ByteArray) t160 t161 _ ?side1 A3.out).mono ?_); (case side1 => exact ⟨Tabs.below hT.out (by repeat (first | (with_reducible first | exact HB.out | apply below_alloc | apply pw_below_drewN | apply below_drew1) | exact HB.out))⟩); rintro e w8 ⟨v162, rfl, ho0, hb⟩; refine ⟨_, rfl, ?_⟩; have n0_ := Aside0.mk (Kd.R_lower ho0 (below_size (by repeat (first | (with_reducible first | exact HB.out | apply below_alloc | apply pw_below_drewN | apply below_drew1) | exact HB.out)))); have n1_ := Aside0.mk (below_step (by repeat (first | (with_reducible first | exact HB.out | apply below_alloc | apply pw_below_drewN | apply below_drew1) | exact HB.out)) hb); clear HB; have HO163 := n0_; have HB := n1_; clear n0_ n1_; (try clear hb); (try clear hb2); (try clear hk); (try clear hi); (try clear ho0)))
        go_ret
        exact ⟨by first | rfl | (simp [errW_none, errW_some] <;> rfl) | (simp [*, errW_none, errW_some] <;> rfl), by repeat (first | (with_reducible first | exact HB.out | apply below_alloc | apply pw_below_drewN | apply below_drew1) | exact HB.out)⟩
      · replace c6 := Bool.eq_false_iff.mpr c6
        subst c6
        have H1 : (if t161 = true then (if (t160.length : Int) = 512 then (if 0 < (t160.length : Int) then (if (rd t160 0) = 97 then (if 156 < (t160.length : Int) then (if (rd t160 156) = 48 then (if 134 < (t160.length : Int) then (if (rd t160 134) = 51 then (if 257 < (t160.length : Int) then (some ((rd t160 257) == 117)) else (none)) else (some false)) else (none)) else (some false)) else (none)) else (some false)) else (none)) else (some false)) else (some false)) = some r := by rw [if_neg (show ¬ (false = true) by decide)] at H; exact H
        clear H
        have H := H1
        clear H1
        by_cases c9 : t161 = true
        · subst c9
          have H1 : (if (t160.length : Int) = 512 then (if 0 < (t160.length : Int) then (if (rd t160 0) = 97 then (if 156 < (t160.length : Int) then (if (rd t160 156) = 48 then (if 134 < (t160.length : Int) then (if (rd t160 134) = 51 then (if 257 < (t160.length : Int) then (some ((rd t160 257) == 117)) else (none)) else (some false)) else (none)) else (some false)) else (none)) else (some false)) else (none)) else (some false)) = some r := by rw [if_pos rfl] at H; exact H
          clear H
          have H := H1
          clear H1
          by_cases c10 : (t160.length : Int) = 512
          · rw [if_pos c10] at H
            have c10b0 : ((t160.length : Int) == 512) = true := beq_iff_eq.mpr c10
            have c10b1 : ((t160.length : Int) != 512) = false := bne_eq_false_iff_eq.mpr c10
            clear c10
            by_cases c11 : 0 < (t160.length : Int)
            · rw [if_pos c11] at H
              have c11b0 : decide (0 < (t160.length : Int)) = true := decide_eq_true c11
              have c11b1 : decide (0 < t160.length) = true := decide_eq_true (by omega)
              clear c11
              by_cases c12 : (rd t160 0) = 97
              · rw [if_pos c12] at H
                have c12b0 : ((rd t160 0) == 97) = true := beq_iff_eq.mpr c12
                have c12b1 : ((rd t160 0) != 97) = false := bne_eq_false_iff_eq.mpr c12
                clear c12
                by_cases c13 : 156 < (t160.length : Int)
                · rw [if_pos c13] at H
                  have c13b0 : decide (156 < (t160.length : Int)) = true := decide_eq_true c13
                  have c13b1 : decide (156 < t160.length) = true := decide_eq_true (by omega)
                  clear c13
                  by_cases c14 : (rd t160 156) = 48
                  · rw [if_pos c14] at H
                    have c14b0 : ((rd t160 156) == 48) = true := beq_iff_eq.mpr c14
                    have c14b1 : ((rd t160 156) != 48) = false := bne_eq_false_iff_eq.mpr c14
                    clear c14
                    by_cases c15 : 134 < (t160.length : Int)
                    · rw [if_pos c15] at H
                      have c15b0 : decide (134 < (t160.length : Int)) = true := decide_eq_true c15
                      have c15b1 : decide (134 < t160.length) = true := decide_eq_true (by omega)
                      clear c15
                      by_cases c16 : (rd t160 134) = 51
                      · rw [if_pos c16] at H
                        have c16b0 : ((rd t160 134) == 51) = true := beq_iff_eq.mpr c16
                        have c16b1 : ((rd t160 134) != 51) = false := bne_eq_false_iff_eq.mpr c16
                        clear c16
                        by_cases c17 : 257 < (t160.length : Int)
                        · rw [if_pos c17] at H
                          have c17b0 : decide (257 < (t160.length : Int)) = true := decide_eq_true c17
                          have c17b1 : decide (257 < t160.length) = true := decide_eq_true (by omega)
                          clear c17
                          obtain rfl := Option.some.inj H
                          go_enter Tryd.func23, Tryd.ntmps23
                          go_wp2_with (first | ((with_reducible refine gate_callee (f := 24) rfl ?_); refine goesL_ (some 8) rfl rfl Tryd.func24 (by kernel_rfl) rfl #[.int .i64 8, .int .i64 3] rfl (by (try simp only [List.map_toArray, List.map_cons, List.map_nil]); first | done | rfl | (simp only [List.length_drop, List.length_take]; rfl)) ?_; (with_reducible refine (head_Octal.calls k 8 3 t156 true _ ?side1 A1.out).mono ?_); (case side1 => exact ⟨Tabs.below hT.out (by repeat (first | (with_reducible first | exact HB.out | apply below_alloc | apply pw_below_drewN | apply below_drew1) | exact HB.out))⟩); rintro e w18 ⟨rfl, hb⟩; refine ⟨_, rfl, ?_⟩; have n0_ := Aside0.mk (below_step (by repeat (first | (with_reducible first | exact HB.out | apply below_alloc | apply pw_below_drewN | apply below_drew1) | exact HB.out)) hb); clear HB; have HB := n0_; clear n0_; (try clear hb); (try clear hb2); (try clear hk); (try clear hi)) | ((with_reducible refine gate_callee (f := 26) rfl ?_); refine goesL_ (some 12) rfl rfl Tryd.func26 (by kernel_rfl) rfl #[.string (⟨#[48, 49, 56]⟩ : ByteArray)] rfl (by (try simp only [List.map_toArray, List.map_cons, List.map_nil]); first | done | rfl | (simp only [List.length_drop, List.length_take]; rfl)) ?_; (with_reducible refine (head_OfOctal.calls k (⟨#[48, 49, 56]⟩ : ByteArray) t158 false _ A2.out).mono ?_); rintro e w' ⟨rfl, ⟨nd, rfl⟩⟩; refine ⟨_, rfl, ?_⟩) | ((with_reducible refine gate_callee (f := 28) rfl ?_); refine goesL_ (some 16) rfl rfl Tryd.func28 (by kernel_rfl) rfl #[.string (⟨#[97]⟩ : ByteArray), .int .i64 2, .int .i64 3, .string (⟨#[]⟩ : ByteArray)] rfl (by (try simp only [List.map_toArray, List.map_cons, List.map_nil]); first | done | rfl | (simp only [List.length_drop, List.length_take]; rfl)) ?_; (with_reducible refine (head_Lay.calls k (⟨#[97]⟩ : ByteArray) 2 3 (⟨#[]⟩ : ByteArray) t160 true _ ?side1 A3.out).mono ?_); (case side1 => exact ⟨Tabs.below hT.out (by repeat (first | (with_reducible first | exact HB.out | apply below_alloc | apply pw_below_drewN | apply below_drew1) | exact HB.out))⟩); rintro e w19 ⟨v162, rfl, ho0, hb⟩; refine ⟨_, rfl, ?_⟩; have n0_ := Aside0.mk (Kd.R_lower ho0 (below_size (by repeat (first | (with_reducible first | exact HB.out | apply below_alloc | apply pw_below_drewN | apply below_drew1) | exact HB.out)))); have n1_ := Aside0.mk (below_step (by repeat (first | (with_reducible first | exact HB.out | apply below_alloc | apply pw_below_drewN | apply below_drew1) | exact HB.out)) hb); clear HB; have HO163 := n0_; have HB := n1_; clear n0_ n1_; (try clear hb); (try clear hb2); (try clear hk); (try clear hi); (try clear ho0); obtain ⟨Ao20, co20, eo20⟩ := Kd.R_slice HO163.out; subst eo20; have p164 : 0 ≤ (0 : Int) := (by omega); have q164 : 0 < (t160.length : Int) := of_decide_eq_true (by first | (with_reducible assumption) | assumption); obtain ⟨ad164, e164, hx164_0⟩ := Kd.at_int (Kd.R_reads' HO163.out).2.2 0 p164 q164; cases e164; have qi164 : (0 < t160.length) = True := eq_true (by omega); (try rw [show ((0 : Int)).toNat = 0 from rfl] at hx164_0); (try rw [Addr.add_zero'] at hx164_0); replace p164 := eq_true p164; replace q164 := eq_true q164; have p165 : 0 ≤ (156 : Int) := (by omega); have q165 : 156 < (t160.length : Int) := of_decide_eq_true (by first | (with_reducible assumption) | assumption); obtain ⟨ad165, e165, hx165_0⟩ := Kd.at_int (Kd.R_reads' HO163.out).2.2 156 p165 q165; obtain rfl : ad164 = ad165 := (by injection e165); (try simp only [show (156 : Int).toNat = 156 from rfl, Nat.reduceMul, Nat.reduceEqDiff, Go.Addr.add, ↓reduceIte] at hx165_0); have qi165 : (156 < t160.length) = True := eq_true (by omega); (try rw [show ((156 : Int)).toNat = 156 from rfl] at hx165_0); replace p165 := eq_true p165; replace q165 := eq_true q165; have p166 : 0 ≤ (134 : Int) := (by omega); have q166 : 134 < (t160.length : Int) := of_decide_eq_true (by first | (with_reducible assumption) | assumption); obtain ⟨ad166, e166, hx166_0⟩ := Kd.at_int (Kd.R_reads' HO163.out).2.2 134 p166 q166; obtain rfl : ad164 = ad166 := (by injection e166); (try simp only [show (134 : Int).toNat = 134 from rfl, Nat.reduceMul, Nat.reduceEqDiff, Go.Addr.add, ↓reduceIte] at hx166_0); have qi166 : (134 < t160.length) = True := eq_true (by omega); (try rw [show ((134 : Int)).toNat = 134 from rfl] at hx166_0); replace p166 := eq_true p166; replace q166 := eq_true q166; have p167 : 0 ≤ (257 : Int) := (by omega); have q167 : 257 < (t160.length : Int) := of_decide_eq_true (by first | (with_reducible assumption) | assumption); obtain ⟨ad167, e167, hx167_0⟩ := Kd.at_int (Kd.R_reads' HO163.out).2.2 257 p167 q167; obtain rfl : ad164 = ad167 := (by injection e167); (try simp only [show (257 : Int).toNat = 257 from rfl, Nat.reduceMul, Nat.reduceEqDiff, Go.Addr.add, ↓reduceIte] at hx167_0); have qi167 : (257 < t160.length) = True := eq_true (by omega); (try rw [show ((257 : Int)).toNat = 257 from rfl] at hx167_0); replace p167 := eq_true p167; replace q167 := eq_true q167))
                          go_ret
                          exact ⟨by first | rfl | (simp [errW_none, errW_some] <;> rfl) | (simp [*, errW_none, errW_some] <;> rfl), by repeat (first | (with_reducible first | exact HB.out | apply below_alloc | apply pw_below_drewN | apply below_drew1) | exact HB.out)⟩
                        · rw [if_neg c17] at H
                          exact absurd H (by simp)
                      · rw [if_neg c16] at H
                        have c16b0 : ((rd t160 134) == 51) = false := beq_eq_false_iff_ne.mpr c16
                        have c16b1 : ((rd t160 134) != 51) = true := bne_iff_ne.mpr c16
                        obtain rfl := Option.some.inj H
                        go_enter Tryd.func23, Tryd.ntmps23
                        go_wp2_with (first | ((with_reducible refine gate_callee (f := 24) rfl ?_); refine goesL_ (some 8) rfl rfl Tryd.func24 (by kernel_rfl) rfl #[.int .i64 8, .int .i64 3] rfl (by (try simp only [List.map_toArray, List.map_cons, List.map_nil]); first | done | rfl | (simp only [List.length_drop, List.length_take]; rfl)) ?_; (with_reducible refine (head_Octal.calls k 8 3 t156 true _ ?side1 A1.out).mono ?_); (case side1 => exact ⟨Tabs.below hT.out (by repeat (first | (with_reducible first | exact HB.out | apply below_alloc | apply pw_below_drewN | apply below_drew1) | exact HB.out))⟩); rintro e w21 ⟨rfl, hb⟩; refine ⟨_, rfl, ?_⟩; have n0_ := Aside0.mk (below_step (by repeat (first | (with_reducible first | exact HB.out | apply below_alloc | apply pw_below_drewN | apply below_drew1) | exact HB.out)) hb); clear HB; have HB := n0_; clear n0_; (try clear hb); (try clear hb2); (try clear hk); (try clear hi)) | ((with_reducible refine gate_callee (f := 26) rfl ?_); refine goesL_ (some 12) rfl rfl Tryd.func26 (by kernel_rfl) rfl #[.string (⟨#[48, 49, 56]⟩ : ByteArray)] rfl (by (try simp only [List.map_toArray, List.map_cons, List.map_nil]); first | done | rfl | (simp only [List.length_drop, List.length_take]; rfl)) ?_; (with_reducible refine (head_OfOctal.calls k (⟨#[48, 49, 56]⟩ : ByteArray) t158 false _ A2.out).mono ?_); rintro e w' ⟨rfl, ⟨nd, rfl⟩⟩; refine ⟨_, rfl, ?_⟩) | ((with_reducible refine gate_callee (f := 28) rfl ?_); refine goesL_ (some 16) rfl rfl Tryd.func28 (by kernel_rfl) rfl #[.string (⟨#[97]⟩ : ByteArray), .int .i64 2, .int .i64 3, .string (⟨#[]⟩ : ByteArray)] rfl (by (try simp only [List.map_toArray, List.map_cons, List.map_nil]); first | done | rfl | (simp only [List.length_drop, List.length_take]; rfl)) ?_; (with_reducible refine (head_Lay.calls k (⟨#[97]⟩ : ByteArray) 2 3 (⟨#[]⟩ : ByteArray) t160 true _ ?side1 A3.out).mono ?_); (case side1 => exact ⟨Tabs.below hT.out (by repeat (first | (with_reducible first | exact HB.out | apply below_alloc | apply pw_below_drewN | apply below_drew1) | exact HB.out))⟩); rintro e w22 ⟨v162, rfl, ho0, hb⟩; refine ⟨_, rfl, ?_⟩; have n0_ := Aside0.mk (Kd.R_lower ho0 (below_size (by repeat (first | (with_reducible first | exact HB.out | apply below_alloc | apply pw_below_drewN | apply below_drew1) | exact HB.out)))); have n1_ := Aside0.mk (below_step (by repeat (first | (with_reducible first | exact HB.out | apply below_alloc | apply pw_below_drewN | apply below_drew1) | exact HB.out)) hb); clear HB; have HO163 := n0_; have HB := n1_; clear n0_ n1_; (try clear hb); (try clear hb2); (try clear hk); (try clear hi); (try clear ho0); obtain ⟨Ao23, co23, eo23⟩ := Kd.R_slice HO163.out; subst eo23; have p164 : 0 ≤ (0 : Int) := (by omega); have q164 : 0 < (t160.length : Int) := of_decide_eq_true (by first | (with_reducible assumption) | assumption); obtain ⟨ad164, e164, hx164_0⟩ := Kd.at_int (Kd.R_reads' HO163.out).2.2 0 p164 q164; cases e164; have qi164 : (0 < t160.length) = True := eq_true (by omega); (try rw [show ((0 : Int)).toNat = 0 from rfl] at hx164_0); (try rw [Addr.add_zero'] at hx164_0); replace p164 := eq_true p164; replace q164 := eq_true q164; have p165 : 0 ≤ (156 : Int) := (by omega); have q165 : 156 < (t160.length : Int) := of_decide_eq_true (by first | (with_reducible assumption) | assumption); obtain ⟨ad165, e165, hx165_0⟩ := Kd.at_int (Kd.R_reads' HO163.out).2.2 156 p165 q165; obtain rfl : ad164 = ad165 := (by injection e165); (try simp only [show (156 : Int).toNat = 156 from rfl, Nat.reduceMul, Nat.reduceEqDiff, Go.Addr.add, ↓reduceIte] at hx165_0); have qi165 : (156 < t160.length) = True := eq_true (by omega); (try rw [show ((156 : Int)).toNat = 156 from rfl] at hx165_0); replace p165 := eq_true p165; replace q165 := eq_true q165; have p166 : 0 ≤ (134 : Int) := (by omega); have q166 : 134 < (t160.length : Int) := of_decide_eq_true (by first | (with_reducible assumption) | assumption); obtain ⟨ad166, e166, hx166_0⟩ := Kd.at_int (Kd.R_reads' HO163.out).2.2 134 p166 q166; obtain rfl : ad164 = ad166 := (by injection e166); (try simp only [show (134 : Int).toNat = 134 from rfl, Nat.reduceMul, Nat.reduceEqDiff, Go.Addr.add, ↓reduceIte] at hx166_0); have qi166 : (134 < t160.length) = True := eq_true (by omega); (try rw [show ((134 : Int)).toNat = 134 from rfl] at hx166_0); replace p166 := eq_true p166; replace q166 := eq_true q166))
                        go_ret
                        exact ⟨by first | rfl | (simp [errW_none, errW_some] <;> rfl) | (simp [*, errW_none, errW_some] <;> rfl), by repeat (first | (with_reducible first | exact HB.out | apply below_alloc | apply pw_below_drewN | apply below_drew1) | exact HB.out)⟩
                    · rw [if_neg c15] at H
                      exact absurd H (by simp)
                  · rw [if_neg c14] at H
                    have c14b0 : ((rd t160 156) == 48) = false := beq_eq_false_iff_ne.mpr c14
                    have c14b1 : ((rd t160 156) != 48) = true := bne_iff_ne.mpr c14
                    obtain rfl := Option.some.inj H
                    go_enter Tryd.func23, Tryd.ntmps23
                    go_wp2_with (first | ((with_reducible refine gate_callee (f := 24) rfl ?_); refine goesL_ (some 8) rfl rfl Tryd.func24 (by kernel_rfl) rfl #[.int .i64 8, .int .i64 3] rfl (by (try simp only [List.map_toArray, List.map_cons, List.map_nil]); first | done | rfl | (simp only [List.length_drop, List.length_take]; rfl)) ?_; (with_reducible refine (head_Octal.calls k 8 3 t156 true _ ?side1 A1.out).mono ?_); (case side1 => exact ⟨Tabs.below hT.out (by repeat (first | (with_reducible first | exact HB.out | apply below_alloc | apply pw_below_drewN | apply below_drew1) | exact HB.out))⟩); rintro e w24 ⟨rfl, hb⟩; refine ⟨_, rfl, ?_⟩; have n0_ := Aside0.mk (below_step (by repeat (first | (with_reducible first | exact HB.out | apply below_alloc | apply pw_below_drewN | apply below_drew1) | exact HB.out)) hb); clear HB; have HB := n0_; clear n0_; (try clear hb); (try clear hb2); (try clear hk); (try clear hi)) | ((with_reducible refine gate_callee (f := 26) rfl ?_); refine goesL_ (some 12) rfl rfl Tryd.func26 (by kernel_rfl) rfl #[.string (⟨#[48, 49, 56]⟩ : ByteArray)] rfl (by (try simp only [List.map_toArray, List.map_cons, List.map_nil]); first | done | rfl | (simp only [List.length_drop, List.length_take]; rfl)) ?_; (with_reducible refine (head_OfOctal.calls k (⟨#[48, 49, 56]⟩ : ByteArray) t158 false _ A2.out).mono ?_); rintro e w' ⟨rfl, ⟨nd, rfl⟩⟩; refine ⟨_, rfl, ?_⟩) | ((with_reducible refine gate_callee (f := 28) rfl ?_); refine goesL_ (some 16) rfl rfl Tryd.func28 (by kernel_rfl) rfl #[.string (⟨#[97]⟩ : ByteArray), .int .i64 2, .int .i64 3, .string (⟨#[]⟩ : ByteArray)] rfl (by (try simp only [List.map_toArray, List.map_cons, List.map_nil]); first | done | rfl | (simp only [List.length_drop, List.length_take]; rfl)) ?_; (with_reducible refine (head_Lay.calls k (⟨#[97]⟩ : ByteArray) 2 3 (⟨#[]⟩ : ByteArray) t160 true _ ?side1 A3.out).mono ?_); (case side1 => exact ⟨Tabs.below hT.out (by repeat (first | (with_reducible first | exact HB.out | apply below_alloc | apply pw_below_drewN | apply below_drew1) | exact HB.out))⟩); rintro e w25 ⟨v162, rfl, ho0, hb⟩; refine ⟨_, rfl, ?_⟩; have n0_ := Aside0.mk (Kd.R_lower ho0 (below_size (by repeat (first | (with_reducible first | exact HB.out | apply below_alloc | apply pw_below_drewN | apply below_drew1) | exact HB.out)))); have n1_ := Aside0.mk (below_step (by repeat (first | (with_reducible first | exact HB.out | apply below_alloc | apply pw_below_drewN | apply below_drew1) | exact HB.out)) hb); clear HB; have HO163 := n0_; have HB := n1_; clear n0_ n1_; (try clear hb); (try clear hb2); (try clear hk); (try clear hi); (try clear ho0); obtain ⟨Ao26, co26, eo26⟩ := Kd.R_slice HO163.out; subst eo26; have p164 : 0 ≤ (0 : Int) := (by omega); have q164 : 0 < (t160.length : Int) := of_decide_eq_true (by first | (with_reducible assumption) | assumption); obtain ⟨ad164, e164, hx164_0⟩ := Kd.at_int (Kd.R_reads' HO163.out).2.2 0 p164 q164; cases e164; have qi164 : (0 < t160.length) = True := eq_true (by omega); (try rw [show ((0 : Int)).toNat = 0 from rfl] at hx164_0); (try rw [Addr.add_zero'] at hx164_0); replace p164 := eq_true p164; replace q164 := eq_true q164; have p165 : 0 ≤ (156 : Int) := (by omega); have q165 : 156 < (t160.length : Int) := of_decide_eq_true (by first | (with_reducible assumption) | assumption); obtain ⟨ad165, e165, hx165_0⟩ := Kd.at_int (Kd.R_reads' HO163.out).2.2 156 p165 q165; obtain rfl : ad164 = ad165 := (by injection e165); (try simp only [show (156 : Int).toNat = 156 from rfl, Nat.reduceMul, Nat.reduceEqDiff, Go.Addr.add, ↓reduceIte] at hx165_0); have qi165 : (156 < t160.length) = True := eq_true (by omega); (try rw [show ((156 : Int)).toNat = 156 from rfl] at hx165_0); replace p165 := eq_true p165; replace q165 := eq_true q165))
                    go_ret
                    exact ⟨by first | rfl | (simp [errW_none, errW_some] <;> rfl) | (simp [*, errW_none, errW_some] <;> rfl), by repeat (first | (with_reducible first | exact HB.out | apply below_alloc | apply pw_below_drewN | apply below_drew1) | exact HB.out)⟩
                · rw [if_neg c13] at H
                  exact absurd H (by simp)
              · rw [if_neg c12] at H
                have c12b0 : ((rd t160 0) == 97) = false := beq_eq_false_iff_ne.mpr c12
                have c12b1 : ((rd t160 0) != 97) = true := bne_iff_ne.mpr c12
                obtain rfl := Option.some.inj H
                go_enter Tryd.func23, Tryd.ntmps23
                go_wp2_with (first | ((with_reducible refine gate_callee (f := 24) rfl ?_); refine goesL_ (some 8) rfl rfl Tryd.func24 (by kernel_rfl) rfl #[.int .i64 8, .int .i64 3] rfl (by (try simp only [List.map_toArray, List.map_cons, List.map_nil]); first | done | rfl | (simp only [List.length_drop, List.length_take]; rfl)) ?_; (with_reducible refine (head_Octal.calls k 8 3 t156 true _ ?side1 A1.out).mono ?_); (case side1 => exact ⟨Tabs.below hT.out (by repeat (first | (with_reducible first | exact HB.out | apply below_alloc | apply pw_below_drewN | apply below_drew1) | exact HB.out))⟩); rintro e w27 ⟨rfl, hb⟩; refine ⟨_, rfl, ?_⟩; have n0_ := Aside0.mk (below_step (by repeat (first | (with_reducible first | exact HB.out | apply below_alloc | apply pw_below_drewN | apply below_drew1) | exact HB.out)) hb); clear HB; have HB := n0_; clear n0_; (try clear hb); (try clear hb2); (try clear hk); (try clear hi)) | ((with_reducible refine gate_callee (f := 26) rfl ?_); refine goesL_ (some 12) rfl rfl Tryd.func26 (by kernel_rfl) rfl #[.string (⟨#[48, 49, 56]⟩ : ByteArray)] rfl (by (try simp only [List.map_toArray, List.map_cons, List.map_nil]); first | done | rfl | (simp only [List.length_drop, List.length_take]; rfl)) ?_; (with_reducible refine (head_OfOctal.calls k (⟨#[48, 49, 56]⟩ : ByteArray) t158 false _ A2.out).mono ?_); rintro e w' ⟨rfl, ⟨nd, rfl⟩⟩; refine ⟨_, rfl, ?_⟩) | ((with_reducible refine gate_callee (f := 28) rfl ?_); refine goesL_ (some 16) rfl rfl Tryd.func28 (by kernel_rfl) rfl #[.string (⟨#[97]⟩ : ByteArray), .int .i64 2, .int .i64 3, .string (⟨#[]⟩ : ByteArray)] rfl (by (try simp only [List.map_toArray, List.map_cons, List.map_nil]); first | done | rfl | (simp only [List.length_drop, List.length_take]; rfl)) ?_; (with_reducible refine (head_Lay.calls k (⟨#[97]⟩ : ByteArray) 2 3 (⟨#[]⟩ : ByteArray) t160 true _ ?side1 A3.out).mono ?_); (case side1 => exact ⟨Tabs.below hT.out (by repeat (first | (with_reducible first | exact HB.out | apply below_alloc | apply pw_below_drewN | apply below_drew1) | exact HB.out))⟩); rintro e w28 ⟨v162, rfl, ho0, hb⟩; refine ⟨_, rfl, ?_⟩; have n0_ := Aside0.mk (Kd.R_lower ho0 (below_size (by repeat (first | (with_reducible first | exact HB.out | apply below_alloc | apply pw_below_drewN | apply below_drew1) | exact HB.out)))); have n1_ := Aside0.mk (below_step (by repeat (first | (with_reducible first | exact HB.out | apply below_alloc | apply pw_below_drewN | apply below_drew1) | exact HB.out)) hb); clear HB; have HO163 := n0_; have HB := n1_; clear n0_ n1_; (try clear hb); (try clear hb2); (try clear hk); (try clear hi); (try clear ho0); obtain ⟨Ao29, co29, eo29⟩ := Kd.R_slice HO163.out; subst eo29; have p164 : 0 ≤ (0 : Int) := (by omega); have q164 : 0 < (t160.length : Int) := of_decide_eq_true (by first | (with_reducible assumption) | assumption); obtain ⟨ad164, e164, hx164_0⟩ := Kd.at_int (Kd.R_reads' HO163.out).2.2 0 p164 q164; cases e164; have qi164 : (0 < t160.length) = True := eq_true (by omega); (try rw [show ((0 : Int)).toNat = 0 from rfl] at hx164_0); (try rw [Addr.add_zero'] at hx164_0); replace p164 := eq_true p164; replace q164 := eq_true q164))
                go_ret
                exact ⟨by first | rfl | (simp [errW_none, errW_some] <;> rfl) | (simp [*, errW_none, errW_some] <;> rfl), by repeat (first | (with_reducible first | exact HB.out | apply below_alloc | apply pw_below_drewN | apply below_drew1) | exact HB.out)⟩
            · rw [if_neg c11] at H
              exact absurd H (by simp)
          · rw [if_neg c10] at H
            have c10b0 : ((t160.length : Int) == 512) = false := beq_eq_false_iff_ne.mpr c10
            have c10b1 : ((t160.length : Int) != 512) = true := bne_iff_ne.mpr c10
            obtain rfl := Option.some.inj H
            go_enter Tryd.func23, Tryd.ntmps23
            go_wp2_with (first | ((with_reducible refine gate_callee (f := 24) rfl ?_); refine goesL_ (some 8) rfl rfl Tryd.func24 (by kernel_rfl) rfl #[.int .i64 8, .int .i64 3] rfl (by (try simp only [List.map_toArray, List.map_cons, List.map_nil]); first | done | rfl | (simp only [List.length_drop, List.length_take]; rfl)) ?_; (with_reducible refine (head_Octal.calls k 8 3 t156 true _ ?side1 A1.out).mono ?_); (case side1 => exact ⟨Tabs.below hT.out (by repeat (first | (with_reducible first | exact HB.out | apply below_alloc | apply pw_below_drewN | apply below_drew1) | exact HB.out))⟩); rintro e w30 ⟨rfl, hb⟩; refine ⟨_, rfl, ?_⟩; have n0_ := Aside0.mk (below_step (by repeat (first | (with_reducible first | exact HB.out | apply below_alloc | apply pw_below_drewN | apply below_drew1) | exact HB.out)) hb); clear HB; have HB := n0_; clear n0_; (try clear hb); (try clear hb2); (try clear hk); (try clear hi)) | ((with_reducible refine gate_callee (f := 26) rfl ?_); refine goesL_ (some 12) rfl rfl Tryd.func26 (by kernel_rfl) rfl #[.string (⟨#[48, 49, 56]⟩ : ByteArray)] rfl (by (try simp only [List.map_toArray, List.map_cons, List.map_nil]); first | done | rfl | (simp only [List.length_drop, List.length_take]; rfl)) ?_; (with_reducible refine (head_OfOctal.calls k (⟨#[48, 49, 56]⟩ : ByteArray) t158 false _ A2.out).mono ?_); rintro e w' ⟨rfl, ⟨nd, rfl⟩⟩; refine ⟨_, rfl, ?_⟩) | ((with_reducible refine gate_callee (f := 28) rfl ?_); refine goesL_ (some 16) rfl rfl Tryd.func28 (by kernel_rfl) rfl #[.string (⟨#[97]⟩ : ByteArray), .int .i64 2, .int .i64 3, .string (⟨#[]⟩ : ByteArray)] rfl (by (try simp only [List.map_toArray, List.map_cons, List.map_nil]); first | done | rfl | (simp only [List.length_drop, List.length_take]; rfl)) ?_; (with_reducible refine (head_Lay.calls k (⟨#[97]⟩ : ByteArray) 2 3 (⟨#[]⟩ : ByteArray) t160 true _ ?side1 A3.out).mono ?_); (case side1 => exact ⟨Tabs.below hT.out (by repeat (first | (with_reducible first | exact HB.out | apply below_alloc | apply pw_below_drewN | apply below_drew1) | exact HB.out))⟩); rintro e w31 ⟨v162, rfl, ho0, hb⟩; refine ⟨_, rfl, ?_⟩; have n0_ := Aside0.mk (Kd.R_lower ho0 (below_size (by repeat (first | (with_reducible first | exact HB.out | apply below_alloc | apply pw_below_drewN | apply below_drew1) | exact HB.out)))); have n1_ := Aside0.mk (below_step (by repeat (first | (with_reducible first | exact HB.out | apply below_alloc | apply pw_below_drewN | apply below_drew1) | exact HB.out)) hb); clear HB; have HO163 := n0_; have HB := n1_; clear n0_ n1_; (try clear hb); (try clear hb2); (try clear hk); (try clear hi); (try clear ho0); obtain ⟨Ao32, co32, eo32⟩ := Kd.R_slice HO163.out; subst eo32))
            go_ret
            exact ⟨by first | rfl | (simp [errW_none, errW_some] <;> rfl) | (simp [*, errW_none, errW_some] <;> rfl), by repeat (first | (with_reducible first | exact HB.out | apply below_alloc | apply pw_below_drewN | apply below_drew1) | exact HB.out)⟩
        · replace c9 := Bool.eq_false_iff.mpr c9
          subst c9
          have H1 : (some false) = some r := by rw [if_neg (show ¬ (false = true) by decide)] at H; exact H
          clear H
          have H := H1
          clear H1
          obtain rfl := Option.some.inj H
          go_enter Tryd.func23, Tryd.ntmps23
          go_wp2_with (first | ((with_reducible refine gate_callee (f := 24) rfl ?_); refine goesL_ (some 8) rfl rfl Tryd.func24 (by kernel_rfl) rfl #[.int .i64 8, .int .i64 3] rfl (by (try simp only [List.map_toArray, List.map_cons, List.map_nil]); first | done | rfl | (simp only [List.length_drop, List.length_take]; rfl)) ?_; (with_reducible refine (head_Octal.calls k 8 3 t156 true _ ?side1 A1.out).mono ?_); (case side1 => exact ⟨Tabs.below hT.out (by repeat (first | (with_reducible first | exact HB.out | apply below_alloc | apply pw_below_drewN | apply below_drew1) | exact HB.out))⟩); rintro e w33 ⟨rfl, hb⟩; refine ⟨_, rfl, ?_⟩; have n0_ := Aside0.mk (below_step (by repeat (first | (with_reducible first | exact HB.out | apply below_alloc | apply pw_below_drewN | apply below_drew1) | exact HB.out)) hb); clear HB; have HB := n0_; clear n0_; (try clear hb); (try clear hb2); (try clear hk); (try clear hi)) | ((with_reducible refine gate_callee (f := 26) rfl ?_); refine goesL_ (some 12) rfl rfl Tryd.func26 (by kernel_rfl) rfl #[.string (⟨#[48, 49, 56]⟩ : ByteArray)] rfl (by (try simp only [List.map_toArray, List.map_cons, List.map_nil]); first | done | rfl | (simp only [List.length_drop, List.length_take]; rfl)) ?_; (with_reducible refine (head_OfOctal.calls k (⟨#[48, 49, 56]⟩ : ByteArray) t158 false _ A2.out).mono ?_); rintro e w' ⟨rfl, ⟨nd, rfl⟩⟩; refine ⟨_, rfl, ?_⟩) | ((with_reducible refine gate_callee (f := 28) rfl ?_); refine goesL_ (some 16) rfl rfl Tryd.func28 (by kernel_rfl) rfl #[.string (⟨#[97]⟩ : ByteArray), .int .i64 2, .int .i64 3, .string (⟨#[]⟩ : ByteArray)] rfl (by (try simp only [List.map_toArray, List.map_cons, List.map_nil]); first | done | rfl | (simp only [List.length_drop, List.length_take]; rfl)) ?_; (with_reducible refine (head_Lay.calls k (⟨#[97]⟩ : ByteArray) 2 3 (⟨#[]⟩ : ByteArray) t160 false _ ?side1 A3.out).mono ?_); (case side1 => exact ⟨Tabs.below hT.out (by repeat (first | (with_reducible first | exact HB.out | apply below_alloc | apply pw_below_drewN | apply below_drew1) | exact HB.out))⟩); rintro e w34 ⟨v162, rfl, ho0, hb⟩; refine ⟨_, rfl, ?_⟩; have n0_ := Aside0.mk (Kd.R_lower ho0 (below_size (by repeat (first | (with_reducible first | exact HB.out | apply below_alloc | apply pw_below_drewN | apply below_drew1) | exact HB.out)))); have n1_ := Aside0.mk (below_step (by repeat (first | (with_reducible first | exact HB.out | apply below_alloc | apply pw_below_drewN | apply below_drew1) | exact HB.out)) hb); clear HB; have HO163 := n0_; have HB := n1_; clear n0_ n1_; (try clear hb); (try clear hb2); (try clear hk); (try clear hi); (try clear ho0)))
          go_ret
          exact ⟨by first | rfl | (simp [errW_none, errW_some] <;> rfl) | (simp [*, errW_none, errW_some] <;> rfl), by repeat (first | (with_reducible first | exact HB.out | apply below_alloc | apply pw_below_drewN | apply below_drew1) | exact HB.out)⟩
    · replace c5 := Bool.eq_false_iff.mpr c5
      subst c5
      have H1 : (some false) = some r := by rw [if_neg (show ¬ (false = true) by decide)] at H; exact H
      clear H
      have H := H1
      clear H1
      obtain rfl := Option.some.inj H
      go_enter Tryd.func23, Tryd.ntmps23
      go_wp2_with (first | ((with_reducible refine gate_callee (f := 24) rfl ?_); refine goesL_ (some 8) rfl rfl Tryd.func24 (by kernel_rfl) rfl #[.int .i64 8, .int .i64 3] rfl (by (try simp only [List.map_toArray, List.map_cons, List.map_nil]); first | done | rfl | (simp only [List.length_drop, List.length_take]; rfl)) ?_; (with_reducible refine (head_Octal.calls k 8 3 t156 false _ ?side1 A1.out).mono ?_); (case side1 => exact ⟨Tabs.below hT.out (by repeat (first | (with_reducible first | exact HB.out | apply below_alloc | apply pw_below_drewN | apply below_drew1) | exact HB.out))⟩); rintro e w35 ⟨rfl, hb⟩; refine ⟨_, rfl, ?_⟩; have n0_ := Aside0.mk (below_step (by repeat (first | (with_reducible first | exact HB.out | apply below_alloc | apply pw_below_drewN | apply below_drew1) | exact HB.out)) hb); clear HB; have HB := n0_; clear n0_; (try clear hb); (try clear hb2); (try clear hk); (try clear hi)) | ((with_reducible refine gate_callee (f := 26) rfl ?_); refine goesL_ (some 12) rfl rfl Tryd.func26 (by kernel_rfl) rfl #[.string (⟨#[48, 49, 56]⟩ : ByteArray)] rfl (by (try simp only [List.map_toArray, List.map_cons, List.map_nil]); first | done | rfl | (simp only [List.length_drop, List.length_take]; rfl)) ?_; (with_reducible refine (head_OfOctal.calls k (⟨#[48, 49, 56]⟩ : ByteArray) t158 t159 _ A2.out).mono ?_); rintro e w' ⟨rfl, ⟨nd, rfl⟩⟩; refine ⟨_, rfl, ?_⟩) | ((with_reducible refine gate_callee (f := 28) rfl ?_); refine goesL_ (some 16) rfl rfl Tryd.func28 (by kernel_rfl) rfl #[.string (⟨#[97]⟩ : ByteArray), .int .i64 2, .int .i64 3, .string (⟨#[]⟩ : ByteArray)] rfl (by (try simp only [List.map_toArray, List.map_cons, List.map_nil]); first | done | rfl | (simp only [List.length_drop, List.length_take]; rfl)) ?_; (with_reducible refine (head_Lay.calls k (⟨#[97]⟩ : ByteArray) 2 3 (⟨#[]⟩ : ByteArray) t160 t161 _ ?side1 A3.out).mono ?_); (case side1 => exact ⟨Tabs.below hT.out (by repeat (first | (with_reducible first | exact HB.out | apply below_alloc | apply pw_below_drewN | apply below_drew1) | exact HB.out))⟩); rintro e w36 ⟨v162, rfl, ho0, hb⟩; refine ⟨_, rfl, ?_⟩; have n0_ := Aside0.mk (Kd.R_lower ho0 (below_size (by repeat (first | (with_reducible first | exact HB.out | apply below_alloc | apply pw_below_drewN | apply below_drew1) | exact HB.out)))); have n1_ := Aside0.mk (below_step (by repeat (first | (with_reducible first | exact HB.out | apply below_alloc | apply pw_below_drewN | apply below_drew1) | exact HB.out)) hb); clear HB; have HO163 := n0_; have HB := n1_; clear n0_ n1_; (try clear hb); (try clear hb2); (try clear hk); (try clear hi); (try clear ho0)))
      go_ret
      exact ⟨by first | rfl | (simp [errW_none, errW_some] <;> rfl) | (simp [*, errW_none, errW_some] <;> rfl), by repeat (first | (with_reducible first | exact HB.out | apply below_alloc | apply pw_below_drewN | apply below_drew1) | exact HB.out)⟩
  · rw [if_neg c4] at H
    have c4b0 : (t156.toList == ([48, 49, 48] : List UInt8)) = false := beq_eq_false_iff_ne.mpr c4
    have c4b1 : (t156.toList != ([48, 49, 48] : List UInt8)) = true := bne_iff_ne.mpr c4
    obtain rfl := Option.some.inj H
    go_enter Tryd.func23, Tryd.ntmps23
    go_wp2_with (first | ((with_reducible refine gate_callee (f := 24) rfl ?_); refine goesL_ (some 8) rfl rfl Tryd.func24 (by kernel_rfl) rfl #[.int .i64 8, .int .i64 3] rfl (by (try simp only [List.map_toArray, List.map_cons, List.map_nil]); first | done | rfl | (simp only [List.length_drop, List.length_take]; rfl)) ?_; (with_reducible refine (head_Octal.calls k 8 3 t156 t157 _ ?side1 A1.out).mono ?_); (case side1 => exact ⟨Tabs.below hT.out (by repeat (first | (with_reducible first | exact HB.out | apply below_alloc | apply pw_below_drewN | apply below_drew1) | exact HB.out))⟩); rintro e w37 ⟨rfl, hb⟩; refine ⟨_, rfl, ?_⟩; have n0_ := Aside0.mk (below_step (by repeat (first | (with_reducible first | exact HB.out | apply below_alloc | apply pw_below_drewN | apply below_drew1) | exact HB.out)) hb); clear HB; have HB := n0_; clear n0_; (try clear hb); (try clear hb2); (try clear hk); (try clear hi)) | ((with_reducible refine gate_callee (f := 26) rfl ?_); refine goesL_ (some 12) rfl rfl Tryd.func26 (by kernel_rfl) rfl #[.string (⟨#[48, 49, 56]⟩ : ByteArray)] rfl (by (try simp only [List.map_toArray, List.map_cons, List.map_nil]); first | done | rfl | (simp only [List.length_drop, List.length_take]; rfl)) ?_; (with_reducible refine (head_OfOctal.calls k (⟨#[48, 49, 56]⟩ : ByteArray) t158 t159 _ A2.out).mono ?_); rintro e w' ⟨rfl, ⟨nd, rfl⟩⟩; refine ⟨_, rfl, ?_⟩) | ((with_reducible refine gate_callee (f := 28) rfl ?_); refine goesL_ (some 16) rfl rfl Tryd.func28 (by kernel_rfl) rfl #[.string (⟨#[97]⟩ : ByteArray), .int .i64 2, .int .i64 3, .string (⟨#[]⟩ : ByteArray)] rfl (by (try simp only [List.map_toArray, List.map_cons, List.map_nil]); first | done | rfl | (simp only [List.length_drop, List.length_take]; rfl)) ?_; (with_reducible refine (head_Lay.calls k (⟨#[97]⟩ : ByteArray) 2 3 (⟨#[]⟩ : ByteArray) t160 t161 _ ?side1 A3.out).mono ?_); (case side1 => exact ⟨Tabs.below hT.out (by repeat (first | (with_reducible first | exact HB.out | apply below_alloc | apply pw_below_drewN | apply below_drew1) | exact HB.out))⟩); rintro e w38 ⟨v162, rfl, ho0, hb⟩; refine ⟨_, rfl, ?_⟩; have n0_ := Aside0.mk (Kd.R_lower ho0 (below_size (by repeat (first | (with_reducible first | exact HB.out | apply below_alloc | apply pw_below_drewN | apply below_drew1) | exact HB.out)))); have n1_ := Aside0.mk (below_step (by repeat (first | (with_reducible first | exact HB.out | apply below_alloc | apply pw_below_drewN | apply below_drew1) | exact HB.out)) hb); clear HB; have HO163 := n0_; have HB := n1_; clear n0_ n1_; (try clear hb); (try clear hb2); (try clear hk); (try clear hi); (try clear ho0)))
    go_ret
    exact ⟨by first | rfl | (simp [errW_none, errW_some] <;> rfl) | (simp [*, errW_none, errW_some] <;> rfl), by repeat (first | (with_reducible first | exact HB.out | apply below_alloc | apply pw_below_drewN | apply below_drew1) | exact HB.out)⟩

end Go.Proofs.YtidlgdpjcognpaaDoor.P

/- What head and its document lay. -/
namespace Go.Proofs.YtidlgdpjcognpaaDoor.X
open Go.RowKit Go.Proofs.YtidlgdpjcognpaaDoorW.PrintWords Go.Proofs.YtidlgdpjcognpaaDoor.P
set_option linter.unusedVariables false
set_option linter.unusedSimpArgs false

/-! ### plain words on texts and lists -/
theorem sumB_lt (xs : List Int) : -9223372036854775808 ≤ sumB xs ∧ sumB xs < 9223372036854775808 := by
  unfold sumB
  have : ∀ (l : List Int) (s : Int), (-9223372036854775808 ≤ s ∧ s < 9223372036854775808) → (-9223372036854775808 ≤ l.foldl (fun s x => wrap64 (s + wrap64 x)) s ∧ l.foldl (fun s x => wrap64 (s + wrap64 x)) s < 9223372036854775808) := by
    intro l
    induction l with
    | nil => intro s h; exact h
    | cons x l ih =>
      intro s h
      refine ih (wrap64 (s + wrap64 x)) ?_
      clear ih h
      generalize s + wrap64 x = y
      unfold wrap64
      omega
  exact this xs 0 (by omega)

/-! ### what may be laid -/
def MayR (a0 : ByteArray) (a1 a2 : Int) (a3 : ByteArray) : Prop :=
  a0.size ≠ 0 ∧ a0.size ≤ 100 ∧ (0 : UInt8) ∉ a0.data.toList ∧ a3.size ≤ 100 ∧ (0 : UInt8) ∉ a3.data.toList ∧ 1 ≤ a1 ∧ a1 ≤ 5 ∧ (a1 = 4 ↔ a3.size ≠ 0) ∧ (a2 = 0 ∨ (a1 ≠ 1 ∧ a1 ≠ 4))
instance (a0 : ByteArray) (a1 a2 : Int) (a3 : ByteArray) : Decidable (MayR a0 a1 a2 a3) := by unfold MayR; infer_instance
def modeR (k : Int) : ByteArray := if k = 1 ∨ k = 3 then ⟨#[48, 48, 48, 48, 55, 53, 53]⟩ else if k = 4 then ⟨#[48, 48, 48, 48, 55, 55, 55]⟩ else ⟨#[48, 48, 48, 48, 54, 52, 52]⟩
def signR (k : Int) : UInt8 := if k = 1 then 53 else if k = 4 then 50 else if k = 5 then 120 else 48
def laidR (a0 : ByteArray) (a1 : Int) (n : Nat) (a3 : ByteArray) : List Int := laid0 a0 (modeR a1) ⟨(octP 11 n).toArray⟩ ⟨#[signR a1]⟩ a3
def layB (a0 : ByteArray) (a1 : Int) (n : Nat) (a3 : ByteArray) : List Int := putB (laidR a0 a1 n a3) 148 ((octR (sumB (laidR a0 a1 n a3)) 6).1 ++ ⟨#[0, 32]⟩)
def layR (a0 : ByteArray) (a1 a2 : Int) (a3 : ByteArray) : List Int × Bool := if MayR a0 a1 a2 a3 ∧ 0 ≤ a2 ∧ a2.toNat < 8589934592 then (layB a0 a1 a2.toNat a3, true) else ([], false)
theorem octR_yes (n : Nat) (h : n < 8589934592) : octR (n : Int) 11 = (⟨(octP 11 n).toArray⟩, true) := by
  unfold octR
  rw [if_pos ⟨by omega, by omega, by omega, by rw [Int.toNat_natCast]; exact h⟩]
  rfl
theorem octR_no (a : Int) (h : ¬ (0 ≤ a ∧ a.toNat < 8589934592)) : octR a 11 = (⟨#[]⟩, false) := by
  unfold octR
  rw [if_neg (fun x => h ⟨x.1, x.2.2.2⟩)]
theorem octR_size (a : Int) : (octR a 6).1.size ≤ 6 := by
  unfold octR
  split
  · rw [size_mk, octP_length]; exact Nat.le_refl 6
  · decide

theorem text_eq (s : ByteArray) : head_text.f s = some (decide (s.size ≤ 100 ∧ (0 : UInt8) ∉ s.data.toList)) := by
  unfold head_text.f
  by_cases h : s.size ≤ 100
  · rw [if_pos (by omega)]
    show some (decide (Lib.indexByte s.data.toList 0 < 0)) = _
    congr 1
    rw [decide_eq_decide, indexByte_none]
    simp [h]
  · rw [if_neg (by omega), decide_eq_false (fun x => h x.1)]
theorem may_eq (a0 : ByteArray) (a1 a2 : Int) (a3 : ByteArray) : head_may.f a0 a1 a2 a3 = some (decide (MayR a0 a1 a2 a3)) := by
  unfold head_may.f
  by_cases h0 : a0.size = 0
  · rw [if_pos ((toList_nil a0).2 h0), decide_eq_false (fun x => x.1 h0)]
  rw [if_neg (fun x => h0 ((toList_nil a0).1 x)), text_eq]
  simp only [Option.bind_some]
  by_cases h1 : a0.size ≤ 100 ∧ (0 : UInt8) ∉ a0.data.toList
  rotate_left
  · rw [if_neg (by rw [decide_eq_true_iff]; exact h1), decide_eq_false (fun x => h1 ⟨x.2.1, x.2.2.1⟩)]
  rw [if_pos (by rw [decide_eq_true_iff]; exact h1), text_eq]
  simp only [Option.bind_some]
  by_cases h2 : a3.size ≤ 100 ∧ (0 : UInt8) ∉ a3.data.toList
  rotate_left
  · rw [if_neg (by rw [decide_eq_true_iff]; exact h2), decide_eq_false (fun x => h2 ⟨x.2.2.2.1, x.2.2.2.2.1⟩)]
  rw [if_pos (by rw [decide_eq_true_iff]; exact h2)]
  by_cases h3 : a1 < 1
  · rw [if_pos h3, decide_eq_false (fun x => by have := x.2.2.2.2.2.1; omega)]
  rw [if_neg h3]
  by_cases h4 : 5 < a1
  · rw [if_pos (by omega), decide_eq_false (fun x => by have := x.2.2.2.2.2.2.1; omega)]
  rw [if_neg (by omega)]
  have e3 : (a3.toList != ([] : List UInt8)) = decide (a3.size ≠ 0) := by
    rw [Bool.eq_iff_iff, bne_iff_ne, decide_eq_true_iff]
    exact not_congr (toList_nil a3)
  have e4 : (a1 == 4) = decide (a1 = 4) := by rw [Bool.eq_iff_iff, beq_iff_eq, decide_eq_true_iff]
  rw [e3, e4]
  by_cases h5 : a1 = 4 ↔ a3.size ≠ 0
  rotate_left
  · rw [if_neg (by rw [beq_iff_eq, decide_eq_decide]; exact fun x => h5 x.symm), decide_eq_false (fun x => h5 x.2.2.2.2.2.2.2.1)]
  rw [if_pos (by rw [beq_iff_eq, decide_eq_decide]; exact h5.symm)]
  by_cases h6 : a2 = 0
  · rw [if_pos h6, decide_eq_true]
    exact ⟨h0, h1.1, h1.2, h2.1, h2.2, by omega, by omega, h5, Or.inl h6⟩
  rw [if_neg h6]
  by_cases h7 : a1 = 1
  · rw [if_pos h7, decide_eq_false (fun x => by have := x.2.2.2.2.2.2.2.2; omega)]
  rw [if_neg h7]
  congr 1
  by_cases h8 : a1 = 4
  · rw [decide_eq_false (fun x => by have := x.2.2.2.2.2.2.2.2; omega), h8]; rfl
  · rw [decide_eq_true (show MayR a0 a1 a2 a3 from ⟨h0, h1.1, h1.2, h2.1, h2.2, by omega, by omega, h5, Or.inr ⟨h7, h8⟩⟩)]
    simpa using h8
theorem mode_eq (k : Nat) (a : Int) : head_mode.f (k + 1) a = some (modeR a) := by
  unfold head_mode.f modeR
  by_cases h1 : a = 1
  · subst h1; rfl
  rw [if_neg h1]
  simp only [head_mode.j0]
  by_cases h3 : a = 3
  · subst h3; rfl
  have e3 : (a == 3) = false := by simpa using h3
  rw [e3, if_neg (by simp), if_neg (show ¬ (a = 1 ∨ a = 3) by omega)]
  split <;> rfl
theorem sign_eq (a : Int) : head_sign.f a = some ⟨#[signR a]⟩ := by
  unfold head_sign.f signR
  split
  · rfl
  split
  · rfl
  split <;> rfl
theorem modeR_size (a : Int) : (modeR a).size = 7 := by
  unfold modeR
  split
  · rfl
  split <;> rfl

theorem lay_eq (k : Nat) (a0 : ByteArray) (a1 a2 : Int) (a3 : ByteArray) (h2 : a2 < 9223372036854775808) : head_Lay.f (k + 1) a0 a1 a2 a3 = some (layR a0 a1 a2 a3) := by
  unfold head_Lay.f layR
  rw [octal_eq k a2 11 h2]
  simp only [Option.bind_some]
  by_cases h : 0 ≤ a2 ∧ a2.toNat < 8589934592
  rotate_left
  · rw [octR_no a2 h, if_neg (by simp), if_neg (fun x => h x.2)]
  obtain ⟨n, rfl⟩ := Int.eq_ofNat_of_zero_le h.1
  have hn : n < 8589934592 := by have := h.2; omega
  rw [octR_yes n hn, may_eq]
  simp only [if_true, Option.bind_some]
  by_cases hm : MayR a0 a1 n a3
  rotate_left
  · rw [if_neg (by simpa using hm), if_neg (fun x => hm x.1)]
  rw [if_pos (by simpa using hm), if_pos ⟨hm, h⟩, mode_eq, sign_eq]
  simp only [Option.bind_some]
  have e1 : (⟨#[signR a1]⟩ : ByteArray).size = 1 := rfl
  rw [if_pos ⟨by have := hm.2.1; omega, by rw [modeR_size]; omega, by rw [size_mk, octP_length]; omega, by rw [e1]; omega, by have := hm.2.2.2.1; omega⟩, octal_eq k _ 6 (sumB_lt _).2]
  simp only [Option.bind_some]
  rw [if_pos (by have := octR_size (sumB (laid0 a0 (modeR a1) ⟨(octP 11 n).toArray⟩ ⟨#[signR a1]⟩ a3)); omega), Int.toNat_natCast]
  rfl
end Go.Proofs.YtidlgdpjcognpaaDoor.X

-- written by xprint.py (the kit's print.py, turned), out of the translation; Lean checks it.
namespace Go.Proofs.YtidlgdpjcognpaaDoor.P
open Go.Proofs.YtidlgdpjcognpaaDoor.X
open Go.RowKit Go.Proofs.YtidlgdpjcognpaaDoorW.PrintWords Go.Proofs.YtidlgdpjcognpaaDoorW.PrintLast Go.Proofs.YtidlgdpjcognpaaDoorW.PrintMore
attribute [local go_sem] max2_int min2_int max_two min_two max_three min_three max_four min_four   -- for this text's walks alone
set_option linter.unusedVariables false
set_option linter.unusedSimpArgs false

/-! ### hogsheadlaw12_HeadOctals: function 6 -/
def hogsheadlaw12_HeadOctals.j0 : Nat → Int → Int → ByteArray → Bool → Bool → Option (Bool)
  | 0, _, _, _, _, _ => none
  | k + 1, x0, x1, x7, x8, x60 => if x60 = true then (some false) else (if x8 = true then ((head_OfOctal.f k x7).bind fun bt177 => (if bt177.1 = x0 then (if bt177.2 = true then (if (x7.size : Int) = x1 then ((hogsheadlaw12_awake.f k).bind fun t179 => (some t179)) else (some false)) else (some false)) else (some false))) else ((hogsheadlaw12_awake.f k).bind fun t180 => (some t180)))
def hogsheadlaw12_HeadOctals.f (k : Nat) (a0 : Int) (a1 : Int) (a2 : ByteArray) : Option (Bool) := if (a2.size : Int) > 20 then ((hogsheadlaw12_awake.f k).bind fun t168 => (some t168)) else ((head_Octal.f k a0 a1).bind fun bt169 => ((hogsheadref12_Octal.f k a0 a1).bind fun bt171 => ((head_OfOctal.f k a2).bind fun bt173 => ((hogsheadref12_OfOctal.f k a2).bind fun bt175 => (if bt169.1.toList = bt171.1.toList then (if (bt169.2 != bt171.2) = true then (hogsheadlaw12_HeadOctals.j0 k a0 a1 bt169.1 bt169.2 true) else (if bt173.1 = bt175.1 then (hogsheadlaw12_HeadOctals.j0 k a0 a1 bt169.1 bt169.2 (bt173.2 != bt175.2)) else (hogsheadlaw12_HeadOctals.j0 k a0 a1 bt169.1 bt169.2 true))) else (hogsheadlaw12_HeadOctals.j0 k a0 a1 bt169.1 bt169.2 true))))))
theorem hogsheadlaw12_HeadOctals.mono_l : ∀ k, (∀ y0 y1 y2 y3 y4, LeO (hogsheadlaw12_HeadOctals.j0 k y0 y1 y2 y3 y4) (hogsheadlaw12_HeadOctals.j0 (k + 1) y0 y1 y2 y3 y4))
  | 0 => fun _ _ _ _ _ r h => by simp [hogsheadlaw12_HeadOctals.j0] at h
  | k + 1 => by
    have ih0 := hogsheadlaw12_HeadOctals.mono_l k
    · intro y0 y1 y2 y3 y4
      unfold hogsheadlaw12_HeadOctals.j0
      repeat' first
      | (with_reducible exact ih0 _ _ _ _ _)
      | (with_reducible exact head_Octal.mono _ _ _)
      | (with_reducible exact head_OfOctal.mono _ _)
      | (with_reducible exact hogsheadlaw12_awake.mono _)
      | (with_reducible exact hogsheadref12_Octal.mono _ _ _)
      | (with_reducible exact hogsheadref12_OfOctal.mono _ _)
      | (with_reducible exact LeO.refl _)
      | (with_reducible exact LeO.none _)
      | (with_reducible refine LeO.ite ?_ ?_)
      | (with_reducible refine LeO.bind ?_ (fun _ => ?_))
      | exact ih0 _ _ _ _ _
      | exact head_Octal.mono _ _ _
      | exact head_OfOctal.mono _ _
      | exact hogsheadlaw12_awake.mono _
      | exact hogsheadref12_Octal.mono _ _ _
      | exact hogsheadref12_OfOctal.mono _ _
      | exact LeO.none _
      | refine LeO.ite ?_ ?_
      | refine LeO.bind ?_ (fun _ => ?_)
theorem hogsheadlaw12_HeadOctals.mono : ∀ a0 a1 a2 k, LeO (hogsheadlaw12_HeadOctals.f k a0 a1 a2) (hogsheadlaw12_HeadOctals.f (k + 1) a0 a1 a2) := by
  intro a0 a1 a2 k
  have ih0 := hogsheadlaw12_HeadOctals.mono_l k
  unfold hogsheadlaw12_HeadOctals.f
  repeat' first
      | (with_reducible exact ih0 _ _ _ _ _)
      | (with_reducible exact head_Octal.mono _ _ _)
      | (with_reducible exact head_OfOctal.mono _ _)
      | (with_reducible exact hogsheadlaw12_awake.mono _)
      | (with_reducible exact hogsheadref12_Octal.mono _ _ _)
      | (with_reducible exact hogsheadref12_OfOctal.mono _ _)
      | (with_reducible exact LeO.refl _)
      | (with_reducible exact LeO.none _)
      | (with_reducible refine LeO.ite ?_ ?_)
      | (with_reducible refine LeO.bind ?_ (fun _ => ?_))
      | exact ih0 _ _ _ _ _
      | exact head_Octal.mono _ _ _
      | exact head_OfOctal.mono _ _
      | exact hogsheadlaw12_awake.mono _
      | exact hogsheadref12_Octal.mono _ _ _
      | exact hogsheadref12_OfOctal.mono _ _
      | exact LeO.none _
      | refine LeO.ite ?_ ?_
      | refine LeO.bind ?_ (fun _ => ?_)
set_option maxHeartbeats 8000000 in
set_option maxRecDepth 100000 in
theorem hogsheadlaw12_HeadOctals.calls (k : Nat) (a0 : Int) (a1 : Int) (a2 : ByteArray) (r : Bool) (w : World) (hT : Aside0 (Tabs w)) (h : hogsheadlaw12_HeadOctals.f k a0 a1 a2 = some r) :
    Calls Tryd.prog 6 #[.int .i64 a0, .int .i64 a1, .string a2] w fun e w' => e = .returned (.bool r) ∧ Below w.heap.size w w' := by
  have HB := Aside0.mk (Below.refl w.heap.size w)
  have H : (if (a2.size : Int) > 20 then ((hogsheadlaw12_awake.f k).bind fun t168 => (some t168)) else ((head_Octal.f k a0 a1).bind fun bt169 => ((hogsheadref12_Octal.f k a0 a1).bind fun bt171 => ((head_OfOctal.f k a2).bind fun bt173 => ((hogsheadref12_OfOctal.f k a2).bind fun bt175 => (if bt169.1.toList = bt171.1.toList then (if (bt169.2 != bt171.2) = true then (hogsheadlaw12_HeadOctals.j0 k a0 a1 bt169.1 bt169.2 true) else (if bt173.1 = bt175.1 then (hogsheadlaw12_HeadOctals.j0 k a0 a1 bt169.1 bt169.2 (bt173.2 != bt175.2)) else (hogsheadlaw12_HeadOctals.j0 k a0 a1 bt169.1 bt169.2 true))) else (hogsheadlaw12_HeadOctals.j0 k a0 a1 bt169.1 bt169.2 true))))))) = some r := h
  clear h
  by_cases c4 : (a2.size : Int) > 20
  · rw [if_pos c4] at H
    have c4b0 : decide (20 < (a2.size : Int)) = true := decide_eq_true c4
    have c4b1 : decide (20 < a2.size) = true := decide_eq_true (by omega)
    clear c4
    replace H := Option.bind_eq_some_iff.mp H
    obtain ⟨t168, A50, H⟩ := H
    replace H : (some t168) = some r := H
    have A5 := Aside0.mk A50
    clear A50
    obtain rfl := Option.some.inj H
    go_enter Tryd.func6, Tryd.ntmps6
    go_wp2_with (first | ((with_reducible refine gate_callee (f := 23) rfl ?_); refine goesL_ (some 20) rfl rfl Tryd.func23 (by kernel_rfl) rfl #[] rfl (by (try simp only [List.map_toArray, List.map_cons, List.map_nil]); first | done | rfl | (simp only [List.length_drop, List.length_take]; rfl)) ?_; (with_reducible refine (hogsheadlaw12_awake.calls k  t168 _ ?side1 A5.out).mono ?_); (case side1 => exact ⟨Tabs.below hT.out (by repeat (first | (with_reducible first | exact HB.out | apply below_alloc | apply pw_below_drewN | apply below_drew1) | exact HB.out))⟩); rintro e w6 ⟨rfl, hb⟩; refine ⟨_, rfl, ?_⟩; have n0_ := Aside0.mk (below_step (by repeat (first | (with_reducible first | exact HB.out | apply below_alloc | apply pw_below_drewN | apply below_drew1) | exact HB.out)) hb); clear HB; have HB := n0_; clear n0_; (try clear hb); (try clear hb2); (try clear hk); (try clear hi)))
    go_ret
    exact ⟨by first | rfl | (simp [errW_none, errW_some] <;> rfl) | (simp [*, errW_none, errW_some] <;> rfl), by repeat (first | (with_reducible first | exact HB.out | apply below_alloc | apply pw_below_drewN | apply below_drew1) | exact HB.out)⟩
  · rw [if_neg c4] at H
    have c4b0 : decide (20 < (a2.size : Int)) = false := decide_eq_false c4
    have c4b1 : decide (20 < a2.size) = false := decide_eq_false (by omega)
    clear c4
    replace H := Option.bind_eq_some_iff.mp H
    obtain ⟨⟨t169, t170⟩, A70, H⟩ := H
    replace H : ((hogsheadref12_Octal.f k a0 a1).bind fun bt171 => ((head_OfOctal.f k a2).bind fun bt173 => ((hogsheadref12_OfOctal.f k a2).bind fun bt175 => (if t169.toList = bt171.1.toList then (if (t170 != bt171.2) = true then (hogsheadlaw12_HeadOctals.j0 k a0 a1 t169 t170 true) else (if bt173.1 = bt175.1 then (hogsheadlaw12_HeadOctals.j0 k a0 a1 t169 t170 (bt173.2 != bt175.2)) else (hogsheadlaw12_HeadOctals.j0 k a0 a1 t169 t170 true))) else (hogsheadlaw12_HeadOctals.j0 k a0 a1 t169 t170 true))))) = some r := H
    have A7 := Aside0.mk A70
    clear A70
    replace H := Option.bind_eq_some_iff.mp H
    obtain ⟨⟨t171, t172⟩, A80, H⟩ := H
    replace H : ((head_OfOctal.f k a2).bind fun bt173 => ((hogsheadref12_OfOctal.f k a2).bind fun bt175 => (if t169.toList = t171.toList then (if (t170 != t172) = true then (hogsheadlaw12_HeadOctals.j0 k a0 a1 t169 t170 true) else (if bt173.1 = bt175.1 then (hogsheadlaw12_HeadOctals.j0 k a0 a1 t169 t170 (bt173.2 != bt175.2)) else (hogsheadlaw12_HeadOctals.j0 k a0 a1 t169 t170 true))) else (hogsheadlaw12_HeadOctals.j0 k a0 a1 t169 t170 true)))) = some r := H
    have A8 := Aside0.mk A80
    clear A80
    replace H := Option.bind_eq_some_iff.mp H
    obtain ⟨⟨t173, t174⟩, A90, H⟩ := H
    replace H : ((hogsheadref12_OfOctal.f k a2).bind fun bt175 => (if t169.toList = t171.toList then (if (t170 != t172) = true then (hogsheadlaw12_HeadOctals.j0 k a0 a1 t169 t170 true) else (if t173 = bt175.1 then (hogsheadlaw12_HeadOctals.j0 k a0 a1 t169 t170 (t174 != bt175.2)) else (hogsheadlaw12_HeadOctals.j0 k a0 a1 t169 t170 true))) else (hogsheadlaw12_HeadOctals.j0 k a0 a1 t169 t170 true))) = some r := H
    have A9 := Aside0.mk A90
    clear A90
    replace H := Option.bind_eq_some_iff.mp H
    obtain ⟨⟨t175, t176⟩, A100, H⟩ := H
    replace H : (if t169.toList = t171.toList then (if (t170 != t172) = true then (hogsheadlaw12_HeadOctals.j0 k a0 a1 t169 t170 true) else (if t173 = t175 then (hogsheadlaw12_HeadOctals.j0 k a0 a1 t169 t170 (t174 != t176)) else (hogsheadlaw12_HeadOctals.j0 k a0 a1 t169 t170 true))) else (hogsheadlaw12_HeadOctals.j0 k a0 a1 t169 t170 true)) = some r := H
    have A10 := Aside0.mk A100
    clear A100
    have HC11 := Aside0.mk H
    clear H
    go_enter Tryd.func6, Tryd.ntmps6
    go_upto_region 7 with (first | ((with_reducible refine gate_callee (f := 24) rfl ?_); refine goesL_ (some 24) rfl rfl Tryd.func24 (by kernel_rfl) rfl #[.int .i64 a0, .int .i64 a1] rfl (by (try simp only [List.map_toArray, List.map_cons, List.map_nil]); first | done | rfl | (simp only [List.length_drop, List.length_take]; rfl)) ?_; (with_reducible refine (head_Octal.calls k a0 a1 t169 t170 _ ?side1 A7.out).mono ?_); (case side1 => exact ⟨Tabs.below hT.out (by repeat (first | (with_reducible first | exact HB.out | apply below_alloc | apply pw_below_drewN | apply below_drew1) | exact HB.out))⟩); rintro e w12 ⟨rfl, hb⟩; refine ⟨_, rfl, ?_⟩; have n0_ := Aside0.mk (below_step (by repeat (first | (with_reducible first | exact HB.out | apply below_alloc | apply pw_below_drewN | apply below_drew1) | exact HB.out)) hb); clear HB; have HB := n0_; clear n0_; (try clear hb); (try clear hb2); (try clear hk); (try clear hi)) | ((with_reducible refine gate_callee (f := 25) rfl ?_); refine goesL_ (some 30) rfl rfl Tryd.func25 (by kernel_rfl) rfl #[.int .i64 a0, .int .i64 a1] rfl (by (try simp only [List.map_toArray, List.map_cons, List.map_nil]); first | done | rfl | (simp only [List.length_drop, List.length_take]; rfl)) ?_; (with_reducible refine (hogsheadref12_Octal.calls k a0 a1 t171 t172 _ A8.out).mono ?_); rintro e w' ⟨rfl, ⟨nd, rfl⟩⟩; refine ⟨_, rfl, ?_⟩) | ((with_reducible refine gate_callee (f := 26) rfl ?_); refine goesL_ (some 35) rfl rfl Tryd.func26 (by kernel_rfl) rfl #[.string a2] rfl (by (try simp only [List.map_toArray, List.map_cons, List.map_nil]); first | done | rfl | (simp only [List.length_drop, List.length_take]; rfl)) ?_; (with_reducible refine (head_OfOctal.calls k a2 t173 t174 _ A9.out).mono ?_); rintro e w' ⟨rfl, ⟨nd, rfl⟩⟩; refine ⟨_, rfl, ?_⟩) | ((with_reducible refine gate_callee (f := 27) rfl ?_); refine goesL_ (some 40) rfl rfl Tryd.func27 (by kernel_rfl) rfl #[.string a2] rfl (by (try simp only [List.map_toArray, List.map_cons, List.map_nil]); first | done | rfl | (simp only [List.length_drop, List.length_take]; rfl)) ?_; (with_reducible refine (hogsheadref12_OfOctal.calls k a2 t175 t176 _ A10.out).mono ?_); rintro e w' ⟨rfl, ⟨nd, rfl⟩⟩; refine ⟨_, rfl, ?_⟩))
    (try simp only [Act.put, List.setIfInBounds_toArray, List.set_cons_zero, List.set_cons_succ])
    go_cut [60] (fun v60 wc => ∃ (kq : Nat) (x60_10 : Bool), v60 = .bool x60_10 ∧ Aside0 (hogsheadlaw12_HeadOctals.j0 kq a0 a1 t169 t170 x60_10 = some r) ∧ Aside0 (kq ≤ k) ∧ Aside0 (Below w.heap.size w wc))
    case first =>
      have H := HC11.out
      clear HC11
      by_cases c13 : t169.toList = t171.toList
      · rw [if_pos c13] at H
        have c13b0 : (t169.toList == t171.toList) = true := beq_iff_eq.mpr c13
        have c13b1 : (t169.toList != t171.toList) = false := bne_eq_false_iff_eq.mpr c13
        clear c13
        (first | rw [c13b0] | (simp only [i64_w, i32_w]; rw [c13b0]) | skip)
        by_cases c14 : (t170 != t172) = true
        · rw [if_pos c14] at H
          have c14b0 : (t170 != t172) = true := c14
          (try (have c14b1 : decide (t170 = t172) = false := by simpa using c14))
          (try (have c14b2 : (t170 == t172) = false := by simpa using c14))
          (try (have c14b3 : ¬ (t170 = t172) := by simpa using c14))
          clear c14
          have H' := Aside0.mk H
          clear H
          go_wp2
          go_meet
          case rel => exact ⟨_, (true), (by first | rfl | (simp; done) | (simp [*]; done)), H', ⟨by first | omega | exact Nat.le_refl _⟩, ⟨by repeat (first | (with_reducible first | exact HB.out | apply below_alloc | apply pw_below_drewN | apply below_drew1) | exact HB.out)⟩⟩
        · rw [if_neg c14] at H
          have c14b0 : (t170 != t172) = false := by simpa using c14
          (try (have c14b1 : decide (t170 = t172) = true := by simpa using c14))
          (try (have c14b2 : (t170 == t172) = true := by simpa using c14))
          clear c14
          by_cases c15 : t173 = t175
          · rw [if_pos c15] at H
            have c15b0 : (t173 == t175) = true := beq_iff_eq.mpr c15
            have c15b1 : (t173 != t175) = false := bne_eq_false_iff_eq.mpr c15
            clear c15
            have H' := Aside0.mk H
            clear H
            go_wp2
            go_meet
            case rel => exact ⟨_, ((t174 != t176)), (by first | rfl | (simp; done) | (simp [*]; done)), H', ⟨by first | omega | exact Nat.le_refl _⟩, ⟨by repeat (first | (with_reducible first | exact HB.out | apply below_alloc | apply pw_below_drewN | apply below_drew1) | exact HB.out)⟩⟩
          · rw [if_neg c15] at H
            have c15b0 : (t173 == t175) = false := beq_eq_false_iff_ne.mpr c15
            have c15b1 : (t173 != t175) = true := bne_iff_ne.mpr c15
            have H' := Aside0.mk H
            clear H
            go_wp2
            go_meet
            case rel => exact ⟨_, (true), (by first | rfl | (simp; done) | (simp [*]; done)), H', ⟨by first | omega | exact Nat.le_refl _⟩, ⟨by repeat (first | (with_reducible first | exact HB.out | apply below_alloc | apply pw_below_drewN | apply below_drew1) | exact HB.out)⟩⟩
      · rw [if_neg c13] at H
        have c13b0 : (t169.toList == t171.toList) = false := beq_eq_false_iff_ne.mpr c13
        have c13b1 : (t169.toList != t171.toList) = true := bne_iff_ne.mpr c13
        (first | rw [c13b0] | (simp only [i64_w, i32_w]; rw [c13b0]) | skip)
        have H' := Aside0.mk H
        clear H
        go_wp2
        go_meet
        case rel => exact ⟨_, (true), (by first | rfl | (simp; done) | (simp [*]; done)), H', ⟨by first | omega | exact Nat.le_refl _⟩, ⟨by repeat (first | (with_reducible first | exact HB.out | apply below_alloc | apply pw_below_drewN | apply below_drew1) | exact HB.out)⟩⟩
    case rest =>
      clear HC11
      try clear c1
      try clear c2
      try clear p2
      try clear c4
      try clear c4b0
      try clear c4b1
      try clear c6
      try clear c13
      try clear c13b0
      try clear c13b1
      try clear c14
      try clear c14b0
      try clear c14b1
      try clear c14b2
      try clear c15
      try clear c15b0
      try clear c15b1
      obtain ⟨kq, x60_10, rfl, HA, HJ10, HB⟩ := hcut
      cases kq with
      | zero => exact absurd HA.out (by simp [hogsheadlaw12_HeadOctals.j0])
      | succ kj10 =>
        have H := HA.out
        clear HA
        simp only [hogsheadlaw12_HeadOctals.j0] at H
        by_cases c16 : x60_10 = true
        · subst c16
          have H1 : (some false) = some r := by rw [if_pos rfl] at H; exact H
          clear H
          have H := H1
          clear H1
          obtain rfl := Option.some.inj H
          go_wp2
          go_ret
          exact ⟨by first | rfl | (simp [errW_none, errW_some] <;> rfl) | (simp [*, errW_none, errW_some] <;> rfl), by repeat (first | (with_reducible first | exact HB.out | apply below_alloc | apply pw_below_drewN | apply below_drew1) | exact HB.out)⟩
        · replace c16 := Bool.eq_false_iff.mpr c16
          subst c16
          have H1 : (if t170 = true then ((head_OfOctal.f kj10 t169).bind fun bt177 => (if bt177.1 = a0 then (if bt177.2 = true then (if (t169.size : Int) = a1 then ((hogsheadlaw12_awake.f kj10).bind fun t179 => (some t179)) else (some false)) else (some false)) else (some false))) else ((hogsheadlaw12_awake.f kj10).bind fun t180 => (some t180))) = some r := by rw [if_neg (show ¬ (false = true) by decide)] at H; exact H
          clear H
          have H := H1
          clear H1
          by_cases c17 : t170 = true
          · subst c17
            have H1 : ((head_OfOctal.f kj10 t169).bind fun bt177 => (if bt177.1 = a0 then (if bt177.2 = true then (if (t169.size : Int) = a1 then ((hogsheadlaw12_awake.f kj10).bind fun t179 => (some t179)) else (some false)) else (some false)) else (some false))) = some r := by rw [if_pos rfl] at H; exact H
            clear H
            have H := H1
            clear H1
            replace H := Option.bind_eq_some_iff.mp H
            obtain ⟨⟨t177, t178⟩, A180, H⟩ := H
            replace H : (if t177 = a0 then (if t178 = true then (if (t169.size : Int) = a1 then ((hogsheadlaw12_awake.f kj10).bind fun t179 => (some t179)) else (some false)) else (some false)) else (some false)) = some r := H
            have A18 := Aside0.mk A180
            clear A180
            by_cases c19 : t177 = a0
            · rw [if_pos c19] at H
              have c19b0 : (t177 == a0) = true := beq_iff_eq.mpr c19
              have c19b1 : (t177 != a0) = false := bne_eq_false_iff_eq.mpr c19
              clear c19
              by_cases c20 : t178 = true
              · subst c20
                have H1 : (if (t169.size : Int) = a1 then ((hogsheadlaw12_awake.f kj10).bind fun t179 => (some t179)) else (some false)) = some r := by rw [if_pos rfl] at H; exact H
                clear H
                have H := H1
                clear H1
                by_cases c21 : (t169.size : Int) = a1
                · rw [if_pos c21] at H
                  have c21b0 : ((t169.size : Int) == a1) = true := beq_iff_eq.mpr c21
                  have c21b1 : ((t169.size : Int) != a1) = false := bne_eq_false_iff_eq.mpr c21
                  clear c21
                  replace H := Option.bind_eq_some_iff.mp H
                  obtain ⟨t179, A220, H⟩ := H
                  replace H : (some t179) = some r := H
                  have A22 := Aside0.mk A220
                  clear A220
                  obtain rfl := Option.some.inj H
                  go_wp2_with (first | ((with_reducible refine gate_callee (f := 26) rfl ?_); refine goesL_ (some 64) rfl rfl Tryd.func26 (by kernel_rfl) rfl #[.string t169] rfl (by (try simp only [List.map_toArray, List.map_cons, List.map_nil]); first | done | rfl | (simp only [List.length_drop, List.length_take]; rfl)) ?_; (with_reducible refine (head_OfOctal.calls kj10 t169 t177 true _ A18.out).mono ?_); rintro e w' ⟨rfl, ⟨nd, rfl⟩⟩; refine ⟨_, rfl, ?_⟩) | (go_at_call 23; (with_reducible refine (hogsheadlaw12_awake.calls kj10  t179 _ ?side1 A22.out).mono ?_); (case side1 => exact ⟨Tabs.below hT.out (by repeat (first | (with_reducible first | exact HB.out | apply below_alloc | apply pw_below_drewN | apply below_drew1) | exact HB.out))⟩); rintro e w23 ⟨rfl, hb⟩; have n0_ := Aside0.mk (below_step (by repeat (first | (with_reducible first | exact HB.out | apply below_alloc | apply pw_below_drewN | apply below_drew1) | exact HB.out)) hb); clear HB; have HB := n0_; clear n0_; (try clear hb); (try clear hb2); (try clear hk); (try clear hi)))
                  go_ret
                  exact ⟨by first | rfl | (simp [errW_none, errW_some] <;> rfl) | (simp [*, errW_none, errW_some] <;> rfl), by repeat (first | (with_reducible first | exact HB.out | apply below_alloc | apply pw_below_drewN | apply below_drew1) | exact HB.out)⟩
                · rw [if_neg c21] at H
                  have c21b0 : ((t169.size : Int) == a1) = false := beq_eq_false_iff_ne.mpr c21
                  have c21b1 : ((t169.size : Int) != a1) = true := bne_iff_ne.mpr c21
                  obtain rfl := Option.some.inj H
                  go_wp2_with (first | ((with_reducible refine gate_callee (f := 26) rfl ?_); refine goesL_ (some 64) rfl rfl Tryd.func26 (by kernel_rfl) rfl #[.string t169] rfl (by (try simp only [List.map_toArray, List.map_cons, List.map_nil]); first | done | rfl | (simp only [List.length_drop, List.length_take]; rfl)) ?_; (with_reducible refine (head_OfOctal.calls kj10 t169 t177 true _ A18.out).mono ?_); rintro e w' ⟨rfl, ⟨nd, rfl⟩⟩; refine ⟨_, rfl, ?_⟩))
                  go_ret
                  exact ⟨by first | rfl | (simp [errW_none, errW_some] <;> rfl) | (simp [*, errW_none, errW_some] <;> rfl), by repeat (first | (with_reducible first | exact HB.out | apply below_alloc | apply pw_below_drewN | apply below_drew1) | exact HB.out)⟩
              · replace c20 := Bool.eq_false_iff.mpr c20
                subst c20
                have H1 : (some false) = some r := by rw [if_neg (show ¬ (false = true) by decide)] at H; exact H
                clear H
                have H := H1
                clear H1
                obtain rfl := Option.some.inj H
                go_wp2_with (first | ((with_reducible refine gate_callee (f := 26) rfl ?_); refine goesL_ (some 64) rfl rfl Tryd.func26 (by kernel_rfl) rfl #[.string t169] rfl (by (try simp only [List.map_toArray, List.map_cons, List.map_nil]); first | done | rfl | (simp only [List.length_drop, List.length_take]; rfl)) ?_; (with_reducible refine (head_OfOctal.calls kj10 t169 t177 false _ A18.out).mono ?_); rintro e w' ⟨rfl, ⟨nd, rfl⟩⟩; refine ⟨_, rfl, ?_⟩))
                go_ret
                exact ⟨by first | rfl | (simp [errW_none, errW_some] <;> rfl) | (simp [*, errW_none, errW_some] <;> rfl), by repeat (first | (with_reducible first | exact HB.out | apply below_alloc | apply pw_below_drewN | apply below_drew1) | exact HB.out)⟩
            · rw [if_neg c19] at H
              have c19b0 : (t177 == a0) = false := beq_eq_false_iff_ne.mpr c19
              have c19b1 : (t177 != a0) = true := bne_iff_ne.mpr c19
              obtain rfl := Option.some.inj H
              go_wp2_with (first | ((with_reducible refine gate_callee (f := 26) rfl ?_); refine goesL_ (some 64) rfl rfl Tryd.func26 (by kernel_rfl) rfl #[.string t169] rfl (by (try simp only [List.map_toArray, List.map_cons, List.map_nil]); first | done | rfl | (simp only [List.length_drop, List.length_take]; rfl)) ?_; (with_reducible refine (head_OfOctal.calls kj10 t169 t177 t178 _ A18.out).mono ?_); rintro e w' ⟨rfl, ⟨nd, rfl⟩⟩; refine ⟨_, rfl, ?_⟩))
              go_ret
              exact ⟨by first | rfl | (simp [errW_none, errW_some] <;> rfl) | (simp [*, errW_none, errW_some] <;> rfl), by repeat (first | (with_reducible first | exact HB.out | apply below_alloc | apply pw_below_drewN | apply below_drew1) | exact HB.out)⟩
          · replace c17 := Bool.eq_false_iff.mpr c17
            subst c17
            have H1 : ((hogsheadlaw12_awake.f kj10).bind fun t180 => (some t180)) = some r := by rw [if_neg (show ¬ (false = true) by decide)] at H; exact H
            clear H
            have H := H1
            clear H1
            replace H := Option.bind_eq_some_iff.mp H
            obtain ⟨t180, A240, H⟩ := H
            replace H : (some t180) = some r := H
            have A24 := Aside0.mk A240
            clear A240
            obtain rfl := Option.some.inj H
            go_wp2_with (first | ((with_reducible refine gate_callee (f := 23) rfl ?_); refine goesL_ (some 82) rfl rfl Tryd.func23 (by kernel_rfl) rfl #[] rfl (by (try simp only [List.map_toArray, List.map_cons, List.map_nil]); first | done | rfl | (simp only [List.length_drop, List.length_take]; rfl)) ?_; (with_reducible refine (hogsheadlaw12_awake.calls kj10  t180 _ ?side1 A24.out).mono ?_); (case side1 => exact ⟨Tabs.below hT.out (by repeat (first | (with_reducible first | exact HB.out | apply below_alloc | apply pw_below_drewN | apply below_drew1) | exact HB.out))⟩); rintro e w25 ⟨rfl, hb⟩; refine ⟨_, rfl, ?_⟩; have n0_ := Aside0.mk (below_step (by repeat (first | (with_reducible first | exact HB.out | apply below_alloc | apply pw_below_drewN | apply below_drew1) | exact HB.out)) hb); clear HB; have HB := n0_; clear n0_; (try clear hb); (try clear hb2); (try clear hk); (try clear hi)))
            go_ret
            exact ⟨by first | rfl | (simp [errW_none, errW_some] <;> rfl) | (simp [*, errW_none, errW_some] <;> rfl), by repeat (first | (with_reducible first | exact HB.out | apply below_alloc | apply pw_below_drewN | apply below_drew1) | exact HB.out)⟩

end Go.Proofs.YtidlgdpjcognpaaDoor.P

/- What the document of head lays is what head lays; the chapter's awake; HeadOctals and HeadLays as the printed functions tell them. -/
namespace Go.Proofs.YtidlgdpjcognpaaDoor.X
open Go.RowKit Go.Proofs.YtidlgdpjcognpaaDoorW.PrintWords Go.Proofs.YtidlgdpjcognpaaDoor.P
set_option linter.unusedVariables false
set_option linter.unusedSimpArgs false

theorem zero_l0 (s : ByteArray) (hn : s.size ≤ 9223372036854775807) : ∀ (d i : Nat), s.size - i = d → i ≤ s.size → Ev (fun k => hogsheadref12_zero.l0 k s (i : Int)) (decide ((0 : UInt8) ∈ s.data.toList.drop i)) := by
  intro d
  induction d with
  | zero =>
    intro i hd hi
    refine ⟨1, fun k hk => ?_⟩
    obtain ⟨k, rfl⟩ : ∃ m, k = m + 1 := ⟨k - 1, by omega⟩
    simp only [hogsheadref12_zero.l0]
    rw [if_neg (by omega), List.drop_eq_nil_of_le (by rw [data_length]; omega)]
    rfl
  | succ d ih =>
    intro i hd hi
    have hlt : i < s.size := by omega
    obtain ⟨K, hK⟩ := ih (i + 1) (by omega) (by omega)
    refine ⟨K + 1, fun k hk => ?_⟩
    obtain ⟨k, rfl⟩ : ∃ m, k = m + 1 := ⟨k - 1, by omega⟩
    simp only [hogsheadref12_zero.l0]
    rw [if_pos (by omega), if_pos (by omega), bt_nat s i hlt, drop_data s i hlt]
    generalize s.data.toList[i]'(by rw [data_length]; exact hlt) = c
    by_cases e : c = 0
    · subst e
      rw [if_pos (show (((0 : UInt8).toNat : Nat) : Int) = 0 from rfl), decide_eq_true List.mem_cons_self]
    · have ne : ¬ (c.toNat : Int) = 0 := fun x => e (UInt8.toNat_inj.1 (by have : (0 : UInt8).toNat = 0 := rfl; omega))
      rw [if_neg ne, wrap_i i s.size hlt hn]
      have := hK k (by omega)
      simp only at this
      rw [this]
      congr 1
      rw [decide_eq_decide, List.mem_cons]
      exact ⟨Or.inr, fun x => x.elim (fun y => absurd y.symm e) id⟩
theorem zero_eq (s : ByteArray) (hn : s.size ≤ 9223372036854775807) : Ev (fun k => hogsheadref12_zero.f k s) (decide ((0 : UInt8) ∈ s.data.toList)) := zero_l0 s hn s.size 0 (by omega) (by omega)

theorem kinds (a : Int) (h1 : 1 ≤ a) (h5 : a ≤ 5) : a = 1 ∨ a = 2 ∨ a = 3 ∨ a = 4 ∨ a = 5 := by omega
theorem ref_mode_eq (a : Int) (h1 : 1 ≤ a) (h5 : a ≤ 5) : hogsheadref12_mode.f a = some (modeR a) := by
  rcases kinds a h1 h5 with rfl | rfl | rfl | rfl | rfl <;> rfl
theorem ref_letter_eq (a : Int) (h1 : 1 ≤ a) (h5 : a ≤ 5) : hogsheadref12_letter.f a = some ((signR a).toNat : Int) := by
  rcases kinds a h1 h5 with rfl | rfl | rfl | rfl | rfl <;> rfl
theorem putB_one (xs : List Int) (p : Nat) (c : UInt8) (h : p < xs.length) : putB xs p ⟨#[c]⟩ = xs.set p (c.toNat : Int) := by
  rw [List.set_eq_take_append_cons_drop, if_pos h]
  show xs.take p ++ [(c.toNat : Int)] ++ xs.drop (p + 1) = _
  rw [List.append_assoc]
  rfl
theorem rlaid_eq (name md dg link : ByteArray) (c : UInt8) (h0 : name.size ≤ 100) (h1 : md.size ≤ 400) (h2 : dg.size ≤ 300) : rlaid0 name md dg (c.toNat : Int) link = laid0 name md dg ⟨#[c]⟩ link := by
  unfold rlaid0 laid0
  rw [putB_one]
  have z : zeros512.length = 512 := by rw [zeros512, List.length_replicate]
  have s7 : (⟨#[48, 48, 48, 48, 48, 48, 48]⟩ : ByteArray).size = 7 := rfl
  have s11 : (⟨#[48, 48, 48, 48, 48, 48, 48, 48, 48, 48, 48]⟩ : ByteArray).size = 11 := rfl
  have s8 : (⟨#[32, 32, 32, 32, 32, 32, 32, 32]⟩ : ByteArray).size = 8 := rfl
  have l1 : (putB zeros512 0 name).length = 512 := by rw [putB_length (by rw [z]; omega), z]
  have l2 : (putB (putB zeros512 0 name) 100 md).length = 512 := by rw [putB_length (by rw [l1]; omega), l1]
  have l3 := putB_length (xs := putB (putB zeros512 0 name) 100 md) (p := 108) (s := ⟨#[48, 48, 48, 48, 48, 48, 48]⟩) (by rw [l2, s7]; omega)
  rw [l2] at l3
  generalize putB (putB (putB zeros512 0 name) 100 md) 108 ⟨#[48, 48, 48, 48, 48, 48, 48]⟩ = x3 at *
  have l4 := putB_length (xs := x3) (p := 116) (s := ⟨#[48, 48, 48, 48, 48, 48, 48]⟩) (by rw [l3, s7]; omega)
  rw [l3] at l4
  generalize putB x3 116 ⟨#[48, 48, 48, 48, 48, 48, 48]⟩ = x4 at *
  have l5 := putB_length (xs := x4) (p := 124) (s := dg) (by rw [l4]; omega)
  rw [l4] at l5
  generalize putB x4 124 dg = x5 at *
  have l6 := putB_length (xs := x5) (p := 136) (s := ⟨#[48, 48, 48, 48, 48, 48, 48, 48, 48, 48, 48]⟩) (by rw [l5, s11]; omega)
  rw [l5] at l6
  generalize putB x5 136 ⟨#[48, 48, 48, 48, 48, 48, 48, 48, 48, 48, 48]⟩ = x6 at *
  rw [putB_length (by rw [l6, s8]; omega), l6]
  omega

set_option maxHeartbeats 1600000 in
theorem ref_lay_eq (a0 : ByteArray) (a1 a2 : Int) (a3 : ByteArray) (h2 : a2 < 9223372036854775808) : Ev (fun k => hogsheadref12_Lay.f k a0 a1 a2 a3) (layR a0 a1 a2 a3) := by
  by_cases g0 : a0.size = 0
  · refine ⟨0, fun k hk => ?_⟩
    show hogsheadref12_Lay.f k a0 a1 a2 a3 = _
    unfold hogsheadref12_Lay.f layR
    rw [if_pos ((toList_nil a0).2 g0), if_neg (fun x => x.1.1 g0)]
  by_cases g1 : (100 : Int) < a0.size
  · refine ⟨0, fun k hk => ?_⟩
    show hogsheadref12_Lay.f k a0 a1 a2 a3 = _
    unfold hogsheadref12_Lay.f layR
    rw [if_neg (fun x => g0 ((toList_nil a0).1 x)), if_pos g1, if_neg (fun x => by have := x.1.2.1; omega)]
  obtain ⟨K0, k0⟩ := zero_eq a0 (by omega)
  by_cases g2 : (0 : UInt8) ∈ a0.data.toList
  · refine ⟨K0, fun k hk => ?_⟩
    have k0 := k0 k (by omega)
    simp only at k0
    show hogsheadref12_Lay.f k a0 a1 a2 a3 = _
    unfold hogsheadref12_Lay.f layR
    rw [if_neg (fun x => g0 ((toList_nil a0).1 x)), if_neg g1, k0, decide_eq_true g2, if_neg (show ¬ (MayR a0 a1 a2 a3 ∧ 0 ≤ a2 ∧ a2.toNat < 8589934592) from fun x => x.1.2.2.1 g2)]
    rfl
  by_cases g3 : (100 : Int) < a3.size
  · refine ⟨K0, fun k hk => ?_⟩
    have k0 := k0 k (by omega)
    simp only at k0
    show hogsheadref12_Lay.f k a0 a1 a2 a3 = _
    unfold hogsheadref12_Lay.f layR
    rw [if_neg (fun x => g0 ((toList_nil a0).1 x)), if_neg g1, k0, decide_eq_false g2]
    simp only [Option.bind_some]
    rw [if_neg (by simp), if_pos g3, if_neg (fun x => by have := x.1.2.2.2.1; omega)]
  obtain ⟨K1, k1⟩ := zero_eq a3 (by omega)
  refine ⟨K0 + K1 + 14, fun k hk => ?_⟩
  have k0 := k0 k (by omega)
  have k1 := k1 k (by omega)
  simp only at k0 k1
  show hogsheadref12_Lay.f k a0 a1 a2 a3 = _
  unfold hogsheadref12_Lay.f layR
  rw [if_neg (fun x => g0 ((toList_nil a0).1 x)), if_neg g1, k0, decide_eq_false g2, k1]
  simp only [Option.bind_some]
  rw [if_neg (by simp), if_neg g3]
  by_cases g4 : (0 : UInt8) ∈ a3.data.toList
  · rw [decide_eq_true g4, if_pos rfl, if_neg (fun x => x.1.2.2.2.2.1 g4)]
  rw [decide_eq_false g4, if_neg (by simp)]
  by_cases g5 : a1 < 1
  · rw [if_pos g5, if_neg (fun x => by have := x.1.2.2.2.2.2.1; omega)]
  rw [if_neg g5]
  by_cases g6 : 5 < a1
  · rw [if_pos g6, if_neg (fun x => by have := x.1.2.2.2.2.2.2.1; omega)]
  rw [if_neg g6]
  have e3 : (a3.toList == ([] : List UInt8)) = decide (a3.size = 0) := by
    rw [Bool.eq_iff_iff, beq_iff_eq, decide_eq_true_iff]
    exact toList_nil a3
  have e4 : (a1 == 4) = decide (a1 = 4) := by rw [Bool.eq_iff_iff, beq_iff_eq, decide_eq_true_iff]
  rw [e3, e4]
  by_cases g7 : (a1 = 4 ↔ a3.size ≠ 0)
  rotate_left
  · rw [if_pos (by by_cases x : a1 = 4 <;> by_cases y : a3.size = 0 <;> simp [x, y] at g7 ⊢), if_neg (show ¬ (MayR a0 a1 a2 a3 ∧ 0 ≤ a2 ∧ a2.toNat < 8589934592) from fun x => g7 x.1.2.2.2.2.2.2.2.1)]
  rw [if_neg (by by_cases x : a1 = 4 <;> by_cases y : a3.size = 0 <;> simp [x, y] at g7 ⊢)]
  by_cases g8 : (a1 = 1 ∨ a1 = 4) ∧ a2 ≠ 0
  · rw [if_pos g8, if_neg (fun x => by have := x.1.2.2.2.2.2.2.2.2; omega)]
  rw [if_neg g8]
  have hm : MayR a0 a1 a2 a3 := ⟨g0, by omega, g2, by omega, g4, by omega, by omega, g7, by omega⟩
  unfold hogsheadref12_Lay.g
  rw [ref_octal_eq k (by omega) a2 11 h2]
  simp only [Option.bind_some]
  by_cases h : 0 ≤ a2 ∧ a2.toNat < 8589934592
  rotate_left
  · rw [octR_no a2 h, if_neg (by simp), if_neg (fun x => h x.2)]
  obtain ⟨n, rfl⟩ := Int.eq_ofNat_of_zero_le h.1
  have hn : n < 8589934592 := by have := h.2; omega
  rw [octR_yes n hn, ref_mode_eq a1 (by omega) (by omega), ref_letter_eq a1 (by omega) (by omega), if_pos (show MayR a0 a1 (n : Int) a3 ∧ 0 ≤ (n : Int) ∧ (n : Int).toNat < 8589934592 from ⟨hm, h⟩)]
  simp only [if_true, Option.bind_some]
  rw [if_pos ⟨by rw [modeR_size]; omega, by rw [size_mk, octP_length]; omega⟩, rlaid_eq a0 _ _ _ _ (by omega) (by rw [modeR_size]; omega) (by rw [size_mk, octP_length]; omega), ref_octal_eq k (by omega) _ 6 (sumB_lt _).2]
  simp only [Option.bind_some]
  rw [if_pos (by have := octR_size (sumB (laid0 a0 (modeR a1) ⟨(octP 11 n).toArray⟩ ⟨#[signR a1]⟩ a3)); omega), Int.toNat_natCast]
  rfl

/-! ### awake -/
theorem layB_a : (layB ⟨#[97]⟩ 2 3 ⟨#[]⟩).length = 512 ∧ rd (layB ⟨#[97]⟩ 2 3 ⟨#[]⟩) 0 = 97 ∧ rd (layB ⟨#[97]⟩ 2 3 ⟨#[]⟩) 156 = 48 ∧ rd (layB ⟨#[97]⟩ 2 3 ⟨#[]⟩) 134 = 51 ∧ rd (layB ⟨#[97]⟩ 2 3 ⟨#[]⟩) 257 = 117 := by decide +kernel
theorem layR_a : layR ⟨#[97]⟩ 2 3 ⟨#[]⟩ = (layB ⟨#[97]⟩ 2 3 ⟨#[]⟩, true) := by
  unfold layR
  rw [if_pos (by decide)]
  rfl
theorem awake12_eq : Ev (fun k => hogsheadlaw12_awake.f k) true := by
  obtain ⟨K1, k1⟩ := ofOctal_eq ⟨#[48, 49, 56]⟩
  refine ⟨K1 + 1, fun k hk => ?_⟩
  have k1 := k1 k (by omega)
  obtain ⟨k, rfl⟩ : ∃ m, k = m + 1 := ⟨k - 1, by omega⟩
  simp only at k1
  show hogsheadlaw12_awake.f _ = _
  unfold hogsheadlaw12_awake.f
  obtain ⟨l0, l1, l2, l3, l4⟩ := layB_a
  have e1 : octR 8 3 = (⟨#[48, 49, 48]⟩, true) := by decide +kernel
  have e2 : (ofOctR ⟨#[48, 49, 56]⟩).2 = false := by decide +kernel
  rw [octal_eq _ _ _ (by decide), k1, lay_eq _ _ _ _ _ (by decide), e1, layR_a]
  simp only [Option.bind_some]
  have e3 : (⟨#[48, 49, 48]⟩ : ByteArray).toList = [48, 49, 48] := by rw [ByteArray.toList_eq]
  generalize layB ⟨#[97]⟩ 2 3 ⟨#[]⟩ = b at *
  simp only [e3, e2, l0, l1, l2, l3, l4, if_true, Bool.false_eq_true, if_false]
  decide

/-! ### HeadOctals -/
theorem headOctals_pure (a0 a1 : Int) (a2 : ByteArray) (h0 : a0 < 9223372036854775808) : Ev (fun k => hogsheadlaw12_HeadOctals.f k a0 a1 a2) true := by
  obtain ⟨K0, k0⟩ := awake12_eq
  obtain ⟨K1, k1⟩ := ofOctal_eq a2
  obtain ⟨K2, k2⟩ := ref_ofOctal_eq a2
  obtain ⟨K3, k3⟩ := ofOctal_eq (octR a0 a1).1
  refine ⟨K0 + K1 + K2 + K3 + 16, fun k hk => ?_⟩
  obtain ⟨k, rfl⟩ : ∃ m, k = m + 1 := ⟨k - 1, by omega⟩
  have k00 := k0 k (by omega)
  have k0 := k0 (k + 1) (by omega)
  have k1 := k1 (k + 1) (by omega)
  have k2 := k2 (k + 1) (by omega)
  have k3 := k3 k (by omega)
  simp only at k0 k1 k2 k3 k00
  show hogsheadlaw12_HeadOctals.f _ a0 a1 a2 = _
  unfold hogsheadlaw12_HeadOctals.f
  by_cases g : (a2.size : Int) > 20
  · rw [if_pos g, k0]; rfl
  rw [if_neg g, octal_eq _ _ _ h0, ref_octal_eq _ (by omega) _ _ h0, k1, k2]
  simp only [Option.bind_some]
  simp only [if_true, bne_self_eq_false, Bool.false_eq_true, if_false]
  simp only [hogsheadlaw12_HeadOctals.j0]
  rw [if_neg (by simp)]
  by_cases c : (octR a0 a1).2 = true
  · rw [if_pos c, k3]
    simp only [Option.bind_some]
    have hc : 0 ≤ a0 ∧ 1 ≤ a1 ∧ a1 ≤ 11 ∧ a0.toNat < 8 ^ a1.toNat := by
      unfold octR at c
      split at c
      · assumption
      · cases c
    have ho : (octR a0 a1).1 = ⟨(octP a1.toNat a0.toNat).toArray⟩ := by
      unfold octR
      rw [if_pos hc]
    rw [ho, ofOct_octP _ _ (by have := hc.2.1; omega) (by have := hc.2.2.1; omega) hc.2.2.2, if_pos (Int.toNat_of_nonneg hc.1), if_pos rfl, size_mk, octP_length, if_pos (Int.toNat_of_nonneg (by have := hc.2.1; omega)), k00]
    rfl
  · rw [if_neg c, k00]
    rfl
end Go.Proofs.YtidlgdpjcognpaaDoor.X

-- written by xprint.py (the kit's print.py, turned), out of the translation; Lean checks it.
namespace Go.Proofs.YtidlgdpjcognpaaDoor.P
open Go.Proofs.YtidlgdpjcognpaaDoor.X
open Go.RowKit Go.Proofs.YtidlgdpjcognpaaDoorW.PrintWords Go.Proofs.YtidlgdpjcognpaaDoorW.PrintLast Go.Proofs.YtidlgdpjcognpaaDoorW.PrintMore
attribute [local go_sem] max2_int min2_int max_two min_two max_three min_three max_four min_four   -- for this text's walks alone
set_option linter.unusedVariables false
set_option linter.unusedSimpArgs false

/-! ### hogsheadlaw0_SameBytes: function 30 -/
def hogsheadlaw0_SameBytes.l0 : Nat → List Int → List Int → Int → Option (Bool)
  | 0, _, _, _ => none
  | k + 1, x0, x1, x5 => if x5 < (x0.length : Int) then (if 0 ≤ x5 then (if x5 < (x1.length : Int) then (if (rd x0 x5) = (rd x1 x5) then (hogsheadlaw0_SameBytes.l0 k x0 x1 (wrap64 (x5 + 1))) else (some false)) else (none)) else (none)) else (some true)
def hogsheadlaw0_SameBytes.f (k : Nat) (l0 : List Int) (l1 : List Int) : Option (Bool) := if (l0.length : Int) = (l1.length : Int) then (hogsheadlaw0_SameBytes.l0 k l0 l1 0) else (some false)
theorem hogsheadlaw0_SameBytes.mono_l : ∀ k, (∀ y0 y1 y2, LeO (hogsheadlaw0_SameBytes.l0 k y0 y1 y2) (hogsheadlaw0_SameBytes.l0 (k + 1) y0 y1 y2))
  | 0 => fun _ _ _ r h => by simp [hogsheadlaw0_SameBytes.l0] at h
  | k + 1 => by
    have ih0 := hogsheadlaw0_SameBytes.mono_l k
    · intro y0 y1 y2
      unfold hogsheadlaw0_SameBytes.l0
      repeat' first
      | (with_reducible exact ih0 _ _ _)
      | (with_reducible exact LeO.refl _)
      | (with_reducible exact LeO.none _)
      | (with_reducible refine LeO.ite ?_ ?_)
      | (with_reducible refine LeO.bind ?_ (fun _ => ?_))
      | exact ih0 _ _ _
      | exact LeO.none _
      | refine LeO.ite ?_ ?_
      | refine LeO.bind ?_ (fun _ => ?_)
theorem hogsheadlaw0_SameBytes.mono : ∀ a0 a1 k, LeO (hogsheadlaw0_SameBytes.f k a0 a1) (hogsheadlaw0_SameBytes.f (k + 1) a0 a1) := by
  intro a0 a1 k
  have ih0 := hogsheadlaw0_SameBytes.mono_l k
  unfold hogsheadlaw0_SameBytes.f
  repeat' first
      | (with_reducible exact ih0 _ _ _)
      | (with_reducible exact LeO.refl _)
      | (with_reducible exact LeO.none _)
      | (with_reducible refine LeO.ite ?_ ?_)
      | (with_reducible refine LeO.bind ?_ (fun _ => ?_))
      | exact ih0 _ _ _
      | exact LeO.none _
      | refine LeO.ite ?_ ?_
      | refine LeO.bind ?_ (fun _ => ?_)
set_option maxHeartbeats 8000000 in
set_option maxRecDepth 100000 in
theorem hogsheadlaw0_SameBytes.calls (k : Nat) (A0 : Option Addr) (c0 : Nat) (l0 : List Int) (A1 : Option Addr) (c1 : Nat) (l1 : List Int) (r : Bool) (w : World) (hr0 : Kd.C (Kd.int .u8) w A0 l0.length l0) (hc0 : l0.length ≤ c0) (hr1 : Kd.C (Kd.int .u8) w A1 l1.length l1) (hc1 : l1.length ≤ c1) (h : hogsheadlaw0_SameBytes.f k l0 l1 = some r) :
    Calls Tryd.prog 30 #[.slice A0 l0.length c0, .slice A1 l1.length c1] w fun e w' => e = .returned (.bool r) ∧ Drawn0 w w' := by
  have HR0 := Aside0.mk hr0
  have HC0 := Aside0.mk hc0
  clear hr0 hc0
  have HR1 := Aside0.mk hr1
  have HC1 := Aside0.mk hc1
  clear hr1 hc1
  have H : (if (l0.length : Int) = (l1.length : Int) then (hogsheadlaw0_SameBytes.l0 k l0 l1 0) else (some false)) = some r := h
  clear h
  by_cases c3 : (l0.length : Int) = (l1.length : Int)
  · rw [if_pos c3] at H
    have c3b0 : ((l0.length : Int) == (l1.length : Int)) = true := beq_iff_eq.mpr c3
    have c3b1 : ((l0.length : Int) != (l1.length : Int)) = false := bne_eq_false_iff_eq.mpr c3
    have c3b2 : (l0.length == l1.length) = true := by first | simpa using c3 | (simp at c3 ⊢; omega)
    clear c3
    have H' := Aside0.mk H
    clear H
    go_enter Tryd.func30, Tryd.ntmps30
    go_wp2
    repeat (go_quiet (fail); try go_wp2)
    go_loopg [5] k (fun kq v5 w' => ∃ (x5_1 : Int), v5 = .int .i64 x5_1 ∧ Aside0 (hogsheadlaw0_SameBytes.l0 kq l0 l1 x5_1 = some r) ∧ Aside0 (kq ≤ k) ∧ Drawn0 w w')
    case atStart => exact ⟨(0), (by first | rfl | (simp; done) | (simp [*]; done)), H', ⟨Nat.le_refl _⟩, by repeat (first | exact Drawn0.refl _ | apply Drawn0.step)⟩
    case round =>
      clear H'
      try clear c1
      try clear p2
      try clear c3
      try clear c3b0
      try clear c3b1
      try clear c3b2
      obtain ⟨x5_1, rfl, HA, HK1, ⟨m1, rfl⟩⟩ := hrel
      cases gk with
      | zero => exact absurd HA.out (by simp [hogsheadlaw0_SameBytes.l0])
      | succ k1 =>
        have H := HA.out
        clear HA
        simp only [hogsheadlaw0_SameBytes.l0] at H
        by_cases c4 : x5_1 < (l0.length : Int)
        · rw [if_pos c4] at H
          have c4b0 : decide (x5_1 < (l0.length : Int)) = true := decide_eq_true c4
          clear c4
          by_cases c5 : 0 ≤ x5_1
          · rw [if_pos c5] at H
            have c5b0 : decide (0 ≤ x5_1) = true := decide_eq_true c5
            clear c5
            by_cases c6 : x5_1 < (l1.length : Int)
            · rw [if_pos c6] at H
              have c6b0 : decide (x5_1 < (l1.length : Int)) = true := decide_eq_true c6
              clear c6
              by_cases c7 : (rd l0 x5_1) = (rd l1 x5_1)
              · rw [if_pos c7] at H
                have c7b0 : ((rd l0 x5_1) == (rd l1 x5_1)) = true := beq_iff_eq.mpr c7
                have c7b1 : ((rd l0 x5_1) != (rd l1 x5_1)) = false := bne_eq_false_iff_eq.mpr c7
                clear c7
                have H' := Aside0.mk H
                clear H
                have p114 : 0 ≤ (x5_1 : Int) := of_decide_eq_true (by first | (with_reducible assumption) | assumption)
                have q114 : x5_1 < (l0.length : Int) := of_decide_eq_true (by first | (with_reducible assumption) | assumption)
                obtain ⟨ad114, e114, hx114_0⟩ := Kd.at_int HR0.out x5_1 p114 q114
                cases e114
                replace p114 := eq_true p114
                replace q114 := eq_true q114
                have p115 : 0 ≤ (x5_1 : Int) := of_decide_eq_true (by first | (with_reducible assumption) | assumption)
                have q115 : x5_1 < (l1.length : Int) := of_decide_eq_true (by first | (with_reducible assumption) | assumption)
                obtain ⟨ad115, e115, hx115_0⟩ := Kd.at_int HR1.out x5_1 p115 q115
                cases e115
                replace p115 := eq_true p115
                replace q115 := eq_true q115
                go_wp2
                repeat (go_quiet (fail); try go_wp2)
                go_roundg k1
                case measure => have := HK1.out; omega
                case rel => exact ⟨(wrap64 (x5_1 + 1)), (by first | rfl | (simp; done) | (simp [*]; done)), H', ⟨by have := HK1.out; omega⟩, by repeat (first | exact Drawn0.refl _ | apply Drawn0.step)⟩
              · rw [if_neg c7] at H
                have c7b0 : ((rd l0 x5_1) == (rd l1 x5_1)) = false := beq_eq_false_iff_ne.mpr c7
                have c7b1 : ((rd l0 x5_1) != (rd l1 x5_1)) = true := bne_iff_ne.mpr c7
                obtain rfl := Option.some.inj H
                have p114 : 0 ≤ (x5_1 : Int) := of_decide_eq_true (by first | (with_reducible assumption) | assumption)
                have q114 : x5_1 < (l0.length : Int) := of_decide_eq_true (by first | (with_reducible assumption) | assumption)
                obtain ⟨ad114, e114, hx114_0⟩ := Kd.at_int HR0.out x5_1 p114 q114
                cases e114
                replace p114 := eq_true p114
                replace q114 := eq_true q114
                have p115 : 0 ≤ (x5_1 : Int) := of_decide_eq_true (by first | (with_reducible assumption) | assumption)
                have q115 : x5_1 < (l1.length : Int) := of_decide_eq_true (by first | (with_reducible assumption) | assumption)
                obtain ⟨ad115, e115, hx115_0⟩ := Kd.at_int HR1.out x5_1 p115 q115
                cases e115
                replace p115 := eq_true p115
                replace q115 := eq_true q115
                go_wp2
                repeat (go_quiet (fail); try go_wp2)
                go_ret
                exact ⟨by first | rfl | (simp; done) | (simp [*]; done), by repeat (first | exact Drawn0.refl _ | apply Drawn0.step)⟩
            · rw [if_neg c6] at H
              exact absurd H (by simp)
          · rw [if_neg c5] at H
            exact absurd H (by simp)
        · rw [if_neg c4] at H
          have c4b0 : decide (x5_1 < (l0.length : Int)) = false := decide_eq_false c4
          clear c4
          obtain rfl := Option.some.inj H
          go_wp2
          repeat (go_quiet (fail); try go_wp2)
          go_ret
          exact ⟨by first | rfl | (simp; done) | (simp [*]; done), by repeat (first | exact Drawn0.refl _ | apply Drawn0.step)⟩
  · rw [if_neg c3] at H
    have c3b0 : ((l0.length : Int) == (l1.length : Int)) = false := beq_eq_false_iff_ne.mpr c3
    have c3b1 : ((l0.length : Int) != (l1.length : Int)) = true := bne_iff_ne.mpr c3
    have c3b2 : (l0.length == l1.length) = false := by first | simpa using c3 | (simp at c3 ⊢; omega)
    obtain rfl := Option.some.inj H
    go_enter Tryd.func30, Tryd.ntmps30
    go_wp2
    repeat (go_quiet (fail); try go_wp2)
    go_ret
    exact ⟨by first | rfl | (simp; done) | (simp [*]; done), by repeat (first | exact Drawn0.refl _ | apply Drawn0.step)⟩

end Go.Proofs.YtidlgdpjcognpaaDoor.P

-- written by xprint.py (the kit's print.py, turned), out of the translation; Lean checks it.
namespace Go.Proofs.YtidlgdpjcognpaaDoor.P
open Go.Proofs.YtidlgdpjcognpaaDoor.X
open Go.RowKit Go.Proofs.YtidlgdpjcognpaaDoorW.PrintWords Go.Proofs.YtidlgdpjcognpaaDoorW.PrintLast Go.Proofs.YtidlgdpjcognpaaDoorW.PrintMore
attribute [local go_sem] max2_int min2_int max_two min_two max_three min_three max_four min_four   -- for this text's walks alone
set_option linter.unusedVariables false
set_option linter.unusedSimpArgs false

/-! ### hogsheadlaw0_OverBytes: function 31 -/
def hogsheadlaw0_OverBytes.l0 : Nat → List Int → Int → Option (Unit)
  | 0, _, _ => none
  | k + 1, x0, x2 => if x2 < (x0.length : Int) then (if 0 ≤ x2 then (hogsheadlaw0_OverBytes.l0 k (x0.set (x2 : Int).toNat 238) (wrap64 (x2 + 1))) else (none)) else (if x0.length < 140737488355328 then (some ()) else (none))
def hogsheadlaw0_OverBytes.f (k : Nat) (l0 : List Int) : Option (Unit) := hogsheadlaw0_OverBytes.l0 k l0 0
theorem hogsheadlaw0_OverBytes.mono_l : ∀ k, (∀ y0 y1, LeO (hogsheadlaw0_OverBytes.l0 k y0 y1) (hogsheadlaw0_OverBytes.l0 (k + 1) y0 y1))
  | 0 => fun _ _ r h => by simp [hogsheadlaw0_OverBytes.l0] at h
  | k + 1 => by
    have ih0 := hogsheadlaw0_OverBytes.mono_l k
    · intro y0 y1
      unfold hogsheadlaw0_OverBytes.l0
      repeat' first
      | (with_reducible exact ih0 _ _)
      | (with_reducible exact LeO.refl _)
      | (with_reducible exact LeO.none _)
      | (with_reducible refine LeO.ite ?_ ?_)
      | (with_reducible refine LeO.bind ?_ (fun _ => ?_))
      | exact ih0 _ _
      | exact LeO.none _
      | refine LeO.ite ?_ ?_
      | refine LeO.bind ?_ (fun _ => ?_)
theorem hogsheadlaw0_OverBytes.mono : ∀ a0 k, LeO (hogsheadlaw0_OverBytes.f k a0) (hogsheadlaw0_OverBytes.f (k + 1) a0) := by
  intro a0 k
  have ih0 := hogsheadlaw0_OverBytes.mono_l k
  unfold hogsheadlaw0_OverBytes.f
  repeat' first
      | (with_reducible exact ih0 _ _)
      | (with_reducible exact LeO.refl _)
      | (with_reducible exact LeO.none _)
      | (with_reducible refine LeO.ite ?_ ?_)
      | (with_reducible refine LeO.bind ?_ (fun _ => ?_))
      | exact ih0 _ _
      | exact LeO.none _
      | refine LeO.ite ?_ ?_
      | refine LeO.bind ?_ (fun _ => ?_)
set_option maxHeartbeats 8000000 in
set_option maxRecDepth 100000 in
theorem hogsheadlaw0_OverBytes.calls (k : Nat) (P0_ : Nat → Prop) (u9000_ : Value) (l0 : List Int) (w0 w : World) (hB : Below w0.heap.size w0 w) (ho0 : Kd.R (Kd.int .u8) 5 w w0.heap.size P0_ u9000_ l0) (h : hogsheadlaw0_OverBytes.f k l0 = some ()) :
    Calls Tryd.prog 31 #[u9000_] w fun e w' => e = .returned (.tuple #[]) ∧ Below w0.heap.size w0 w' ∧ Kept w w' (fun k_ => P0_ k_) := by
  have HO0 := Aside0.mk (show Kd.R (Kd.int .u8) 5 w w0.heap.size (fun k_ => (P0_ k_ ∨ w.heap.size ≤ k_)) u9000_ l0 from Kd.R_mono ho0 (fun k_ hk => (.inl hk)))
  have HK := Aside0.mk (Kept.refl w (fun k_ => P0_ k_))
  have HW0 := Aside0.mk hB.size
  have HB := Aside0.mk hB
  clear hB
  have H : (hogsheadlaw0_OverBytes.l0 k l0 0) = some () := h
  clear h
  have H' := Aside0.mk H
  clear H
  go_enter Tryd.func31, Tryd.ntmps31
  go_wp2
  go_loopg [2] k (fun kq v2 w' => ∃ (x0_1 : List Int) (x2_1 : Int), v2 = .int .i64 x2_1 ∧ Aside0 (hogsheadlaw0_OverBytes.l0 kq x0_1 x2_1 = some ()) ∧ Aside0 (kq ≤ k) ∧ Aside0 (Kd.R (Kd.int .u8) 5 w' w0.heap.size (fun k_ => (P0_ k_ ∨ w.heap.size ≤ k_)) u9000_ x0_1) ∧ Aside0 (Kept w w' (fun k_ => P0_ k_)) ∧ Aside0 (Below w0.heap.size w0 w'))
  case atStart => exact ⟨(l0), (0), (by first | rfl | (simp; done) | (simp [*]; done)), H', ⟨Nat.le_refl _⟩, ⟨by (with_reducible repeat (first | apply Kd.R_alloc | apply Kd.R_drewN | apply Kd.R_drew)); exact HO0.out⟩, ⟨by repeat (first | (with_reducible first | exact HK.out | apply Kept.alloc | apply Kept.drewN | apply Kept.drew) | exact HK.out)⟩, ⟨by repeat (first | (with_reducible first | exact HB.out | apply below_alloc | apply pw_below_drewN | apply below_drew1) | exact HB.out)⟩⟩
  case round =>
    clear H'
    obtain ⟨x0_1, x2_1, rfl, HA, HK1, HO_0, HK, HB⟩ := hrel
    cases gk with
    | zero => exact absurd HA.out (by simp [hogsheadlaw0_OverBytes.l0])
    | succ k1 =>
      have H := HA.out
      clear HA
      simp only [hogsheadlaw0_OverBytes.l0] at H
      by_cases c2 : x2_1 < (x0_1.length : Int)
      · rw [if_pos c2] at H
        have c2b0 : decide (x2_1 < (x0_1.length : Int)) = true := decide_eq_true c2
        clear c2
        by_cases c3 : 0 ≤ x2_1
        · rw [if_pos c3] at H
          have c3b0 : decide (0 ≤ x2_1) = true := decide_eq_true c3
          clear c3
          obtain ⟨y181, hy181⟩ : ∃ y_ : List Int, y_ = (x0_1.set (x2_1 : Int).toNat 238) := ⟨_, rfl⟩
          replace H : (hogsheadlaw0_OverBytes.l0 k1 y181 (wrap64 (x2_1 + 1))) = some () := by first | (rw [hy181]; with_reducible exact H) | (have H2_ := (Option.bind_some _ _).symm.trans H; rw [hy181]; with_reducible exact H2_) | (have H2_ := (Option.bind_some _ _).symm.trans H; with_reducible exact H2_) | with_reducible exact H | (rw [hy181]; exact H) | exact H
          have Ny181 := Aside0.mk hy181
          clear hy181
          have H' := Aside0.mk H
          clear H
          obtain ⟨Ao5, co5, eo5⟩ := Kd.R_slice HO_0.out
          subst eo5
          have p4 : 0 ≤ (x2_1 : Int) := of_decide_eq_true (by first | (with_reducible assumption) | assumption)
          have q4 : (x2_1 : Int) < ((x0_1.length : Int) : Int) := of_decide_eq_true (by first | (with_reducible assumption) | assumption)
          obtain ⟨go4, co4, eo4, gb4, gl4, cl4, HG4⟩ := Kd.R_form HO_0.out (by omega)
          (first | cases eo4 | (injection eo4 with ea_ en_ ec_; (first | subst ea_ | (injection ea_ with ea_; subst ea_)); subst ec_; clear en_))
          have GB4 := Aside0.mk gb4
          have GG4 := Aside0.mk HG4
          clear gb4 gl4 HG4
          have HMgo4 := Aside0.mk (show (P0_ go4 ∨ w.heap.size ≤ go4) from (HO_0.out.1 _ rfl))
          obtain ⟨hx4_0, hf4_0⟩ := Kd.R_celln 0 HO_0.out (x2_1 : Int) p4 q4
          replace p4 := eq_true p4
          replace q4 := eq_true q4
          have HP6 := Kd.R_putg HO_0.out (x2_1 : Int) 238
          go_wp2_with (first | ((with_reducible refine gate_store (t := 5) (p := 11) rfl ?_); refine store_event (t := 5) (p := 11) (v := ?vo_w7) (w1 := (wr.setCell ⟨go4, (x2_1 : Int).toNat, none⟩ (.int .u8 238))) ?hg ?ho ?hn ?hr ?_; (case ho => rfl); (case hg => rfl); (case hn => rfl); (case hr => first | (go_simp; done) | (go_simp; rfl)); intro w7 hw; have hg : wr.grownBy w7 (some go4) := (by rw [hw]; exact HP6.2); have hp_ : Kd.R (Kd.int .u8) 5 w7 w0.heap.size (fun k_ => (P0_ k_ ∨ w.heap.size ≤ k_)) (.slice (some ⟨go4, 0, none⟩) x0_1.length co5) y181 := (by rw [hw, Ny181.out]; exact HP6.1); clear HP6; have n0_ := Aside0.mk (hp_); have n1_ := Aside0.mk ((by rw [hw]; exact below_set (HB.out) GB4.out : Below w0.heap.size w0 w7)); have n2_ := Aside0.mk (Kept.of_grown (S := (fun k_ => P0_ k_)) hg (by repeat (first | (with_reducible first | exact HK.out | apply Kept.alloc | apply Kept.drewN | apply Kept.drew) | exact HK.out)) (fun k_ e_ => (HO_0.out.1 k_ e_))); clear HO_0; clear HB; clear HK; have HO_0 := n0_; have HB := n1_; have HK := n2_; clear n0_ n1_ n2_; clear hg hw hp_))
          go_roundg k1
          case measure => have := HK1.out; omega
          case rel => exact ⟨(y181), (wrap64 (x2_1 + 1)), (by first | rfl | (simp; done) | (simp [*]; done)), H', ⟨by have := HK1.out; omega⟩, ⟨by (with_reducible repeat (first | apply Kd.R_alloc | apply Kd.R_drewN | apply Kd.R_drew)); exact HO_0.out⟩, ⟨by repeat (first | (with_reducible first | exact HK.out | apply Kept.alloc | apply Kept.drewN | apply Kept.drew) | exact HK.out)⟩, ⟨by repeat (first | (with_reducible first | exact HB.out | apply below_alloc | apply pw_below_drewN | apply below_drew1) | exact HB.out)⟩⟩
        · rw [if_neg c3] at H
          exact absurd H (by simp)
      · rw [if_neg c2] at H
        have c2b0 : decide (x2_1 < (x0_1.length : Int)) = false := decide_eq_false c2
        clear c2
        by_cases c8 : x0_1.length < 140737488355328
        · rw [if_pos c8] at H
          have LMc8 := Aside0.mk c8
          clear c8
          obtain ⟨y182, hy182⟩ : ∃ y_ : List Int, y_ = (x0_1 ++ [238]) := ⟨_, rfl⟩
          replace H : (some ()) = some () := by first | (rw [hy182]; with_reducible exact H) | (have H2_ := (Option.bind_some _ _).symm.trans H; rw [hy182]; with_reducible exact H2_) | (have H2_ := (Option.bind_some _ _).symm.trans H; with_reducible exact H2_) | with_reducible exact H | (rw [hy182]; exact H) | exact H
          have Ny182 := Aside0.mk hy182
          clear hy182
          obtain ⟨Ao9, co9, eo9⟩ := Kd.R_slice HO_0.out
          subst eo9
          go_wp2_with (first | ((with_reducible refine gate_builtin (b := .append) (xs := #[.tmp 12, .tmp 13]) rfl ?_); at_builtin; refine Kd.R_append (Kd.int .u8) (w0 := w0) w0.heap.size rfl (.tmp 12) (.tmp 13) 22 5 (.int .u8 0) 1 rfl Tryd.underlying22 info5 rfl (by decide) (by omega) (.slice Ao9 x0_1.length co9) x0_1 238 [.int .u8 238] (fun k_ => (P0_ k_ ∨ w.heap.size ≤ k_)) (fun _ => False) rfl rfl ?aP (fun _ hk => hk.elim) ?aF ?aO ?aB ?aS ?aL ?_; (case aP => exact rfl); (case aB => exact (by repeat (first | (with_reducible first | exact HB.out | apply below_alloc | apply pw_below_drewN | apply below_drew1) | exact HB.out))); (case aF => exact (fun k_ hk => (.inr (Nat.le_trans (by first | exact HK.out.1 | exact (show Kept w _ (fun k_ => P0_ k_) from by repeat (first | (with_reducible first | exact HK.out | apply Kept.alloc | apply Kept.drewN | apply Kept.drew) | exact HK.out)).1) hk)))); (case aO => exact (by (with_reducible repeat (first | apply Kd.R_alloc | apply Kd.R_drewN | apply Kd.R_drew)); exact HO_0.out)); (case aS => exact (below_size (by repeat (first | (with_reducible first | exact HB.out | apply below_alloc | apply pw_below_drewN | apply below_drew1) | exact HB.out)))); (case aL => have := LMc8.out; omega); intro v183 w10 ho hb hg hat; rw [← Ny182.out] at ho; have n0_ := Aside0.mk (hb); have n1_ := Aside0.mk (Kept.of_grown (S := (fun k_ => P0_ k_)) hg (by repeat (first | (with_reducible first | exact HK.out | apply Kept.alloc | apply Kept.drewN | apply Kept.drew) | exact HK.out)) (fun k_ e_ => (HO_0.out.1 k_ e_))); have n2_ := Aside0.mk (ho); clear HB; clear HK; clear HO_0; have HB := n0_; have HK := n1_; have HO184 := n2_; clear n0_ n1_ n2_; clear ho hb hg hat))
          first | go_end0 | ((try simp only [Exit.inBlock, Exit.then]); refine bodyPost_ret (results_none rfl _ _ _) rfl ?_)
          exact ⟨by first | rfl | (simp [errW_none, errW_some] <;> rfl) | (simp [*, errW_none, errW_some] <;> rfl), by repeat (first | (with_reducible first | exact HB.out | apply below_alloc | apply pw_below_drewN | apply below_drew1) | exact HB.out), by repeat (first | (with_reducible first | exact HK.out | apply Kept.alloc | apply Kept.drewN | apply Kept.drew) | exact HK.out)⟩
        · rw [if_neg c8] at H
          exact absurd H (by simp)

end Go.Proofs.YtidlgdpjcognpaaDoor.P

-- written by xprint.py (the kit's print.py, turned), out of the translation; Lean checks it.
namespace Go.Proofs.YtidlgdpjcognpaaDoor.P
open Go.Proofs.YtidlgdpjcognpaaDoor.X
open Go.RowKit Go.Proofs.YtidlgdpjcognpaaDoorW.PrintWords Go.Proofs.YtidlgdpjcognpaaDoorW.PrintLast Go.Proofs.YtidlgdpjcognpaaDoorW.PrintMore
attribute [local go_sem] max2_int min2_int max_two min_two max_three min_three max_four min_four   -- for this text's walks alone
set_option linter.unusedVariables false
set_option linter.unusedSimpArgs false

/-! ### hogsheadlaw0_Low: function 22 -/
def hogsheadlaw0_Low.f (a0 : Int) (a1 : Int) : Option (Int) := if (IntKind.u64.wrap (a1)) = 0 then (none) else (some (wrap64 (Int.tmod (IntKind.u64.wrap (a0)) (IntKind.u64.wrap (a1)))))
set_option maxHeartbeats 8000000 in
set_option maxRecDepth 100000 in
theorem hogsheadlaw0_Low.calls (a0 : Int) (a1 : Int) (r : Int) (w : World) (h : hogsheadlaw0_Low.f a0 a1 = some r) :
    Calls Tryd.prog 22 #[.int .i64 a0, .int .i64 a1] w fun e w' => e = .returned (.int .i64 r) ∧ Drawn0 w w' := by
  have H : (if (IntKind.u64.wrap (a1)) = 0 then (none) else (some (wrap64 (Int.tmod (IntKind.u64.wrap (a0)) (IntKind.u64.wrap (a1)))))) = some r := h
  clear h
  by_cases c3 : (IntKind.u64.wrap (a1)) = 0
  · rw [if_pos c3] at H
    exact absurd H (by simp)
  · rw [if_neg c3] at H
    have c3b0 : ((IntKind.u64.wrap (a1)) == 0) = false := beq_eq_false_iff_ne.mpr c3
    have c3b1 : ((IntKind.u64.wrap (a1)) != 0) = true := bne_iff_ne.mpr c3
    obtain rfl := Option.some.inj H
    go_enter Tryd.func22, Tryd.ntmps22
    go_wp2
    go_ret
    exact ⟨by first | rfl | (simp; done) | (simp [*]; done), by repeat (first | exact Drawn0.refl _ | apply Drawn0.step)⟩

end Go.Proofs.YtidlgdpjcognpaaDoor.P

/- What the statements share, as plain words: lists compared, written over; a number below another one. -/
namespace Go.Proofs.YtidlgdpjcognpaaDoor.X
open Go.RowKit Go.Proofs.YtidlgdpjcognpaaDoorW.PrintWords Go.Proofs.YtidlgdpjcognpaaDoor.P
set_option linter.unusedVariables false
set_option linter.unusedSimpArgs false

theorem sameBytes_l0 (a b : List Int) (h : a.length = b.length) (hn : a.length ≤ 9223372036854775807) : ∀ (d i : Nat), a.length - i = d → i ≤ a.length →
    Ev (fun k => hogsheadlaw0_SameBytes.l0 k a b (i : Int)) (decide (a.drop i = b.drop i)) := by
  intro d
  induction d with
  | zero =>
    intro i hd hi
    refine ⟨1, fun k hk => ?_⟩
    obtain ⟨k, rfl⟩ : ∃ m, k = m + 1 := ⟨k - 1, by omega⟩
    simp only [hogsheadlaw0_SameBytes.l0]
    rw [if_neg (by omega), List.drop_eq_nil_of_le (by omega), List.drop_eq_nil_of_le (by omega)]
    rfl
  | succ d ih =>
    intro i hd hi
    have hlt : i < a.length := by omega
    have hlt2 : i < b.length := by omega
    have c1 : (i : Int) < (a.length : Int) := by omega
    have c2 : (i : Int) < (b.length : Int) := by omega
    obtain ⟨K, hK⟩ := ih (i + 1) (by omega) (by omega)
    refine ⟨K + 1, fun k hk => ?_⟩
    obtain ⟨k, rfl⟩ : ∃ m, k = m + 1 := ⟨k - 1, by omega⟩
    simp only [hogsheadlaw0_SameBytes.l0]
    rw [if_pos c1, if_pos (by omega), if_pos c2, rd_getElem a i hlt, rd_getElem b i hlt2, List.drop_eq_getElem_cons hlt, List.drop_eq_getElem_cons hlt2]
    by_cases e : a[i] = b[i]
    · rw [if_pos e, wrap_i i a.length hlt hn]
      have := hK k (by omega)
      simp only at this
      rw [this, e]
      congr 1
      rw [decide_eq_decide, List.cons.injEq]
      simp only [true_and]
    · rw [if_neg e]
      congr 1
      symm
      rw [decide_eq_false_iff_not, List.cons.injEq]
      exact fun x => e x.1
theorem sameBytes_eq (a b : List Int) (hn : a.length ≤ 9223372036854775807) : Ev (fun k => hogsheadlaw0_SameBytes.f k a b) (decide (a = b)) := by
  by_cases h : a.length = b.length
  · obtain ⟨K, hK⟩ := sameBytes_l0 a b h hn a.length 0 (by omega) (by omega)
    refine ⟨K, fun k hk => ?_⟩
    have := hK k hk
    show hogsheadlaw0_SameBytes.f k a b = _
    unfold hogsheadlaw0_SameBytes.f
    rw [if_pos (by omega)]
    exact this
  · refine ⟨0, fun k hk => ?_⟩
    show hogsheadlaw0_SameBytes.f k a b = _
    unfold hogsheadlaw0_SameBytes.f
    rw [if_neg (by omega), decide_eq_false (fun e => h (by rw [e]))]
theorem overBytes_l0 : ∀ (d i : Nat) (a : List Int), a.length < 140737488355328 → a.length - i = d → i ≤ a.length → Ev (fun k => hogsheadlaw0_OverBytes.l0 k a (i : Int)) () := by
  intro d
  induction d with
  | zero =>
    intro i a hn hd hi
    refine ⟨1, fun k hk => ?_⟩
    obtain ⟨k, rfl⟩ : ∃ m, k = m + 1 := ⟨k - 1, by omega⟩
    simp only [hogsheadlaw0_OverBytes.l0]
    rw [if_neg (by omega), if_pos hn]
  | succ d ih =>
    intro i a hn hd hi
    obtain ⟨K, hK⟩ := ih (i + 1) (a.set i 238) (by rw [List.length_set]; exact hn) (by rw [List.length_set]; omega) (by rw [List.length_set]; omega)
    refine ⟨K + 1, fun k hk => ?_⟩
    obtain ⟨k, rfl⟩ : ∃ m, k = m + 1 := ⟨k - 1, by omega⟩
    simp only [hogsheadlaw0_OverBytes.l0]
    rw [if_pos (by omega), if_pos (by omega), Int.toNat_natCast, wrap_i i a.length (by omega) (by omega)]
    exact hK k (by omega)
theorem overBytes_eq (a : List Int) (hn : a.length < 140737488355328) : Ev (fun k => hogsheadlaw0_OverBytes.f k a) () := overBytes_l0 a.length 0 a hn (by omega) (by omega)
theorem low_nat (a n : Int) (h1 : 1 ≤ n) (h2 : n ≤ 9223372036854775807) : ∃ m : Nat, hogsheadlaw0_Low.f a n = some (m : Int) ∧ (m : Int) < n := by
  unfold hogsheadlaw0_Low.f
  have e : IntKind.u64.wrap n = n := by rw [IntKind.wrap_u64]; omega
  have ea : 0 ≤ IntKind.u64.wrap a := by rw [IntKind.wrap_u64]; omega
  rw [e, if_neg (by omega)]
  obtain ⟨u, hu⟩ := Int.eq_ofNat_of_zero_le ea
  obtain ⟨m, rfl⟩ := Int.eq_ofNat_of_zero_le (show 0 ≤ n by omega)
  rw [hu]
  have et : Int.tmod (u : Int) (m : Int) = ((u % m : Nat) : Int) := rfl
  have hl : u % m < m := Nat.mod_lt _ (by omega)
  rw [et]
  refine ⟨u % m, ?_, by omega⟩
  congr 1
  generalize u % m = r at *
  unfold wrap64
  omega
end Go.Proofs.YtidlgdpjcognpaaDoor.X

-- written by xprint.py (the kit's print.py, turned), out of the translation; Lean checks it.
namespace Go.Proofs.YtidlgdpjcognpaaDoor.P
open Go.Proofs.YtidlgdpjcognpaaDoor.X
open Go.RowKit Go.Proofs.YtidlgdpjcognpaaDoorW.PrintWords Go.Proofs.YtidlgdpjcognpaaDoorW.PrintLast Go.Proofs.YtidlgdpjcognpaaDoorW.PrintMore
attribute [local go_sem] max2_int min2_int max_two min_two max_three min_three max_four min_four   -- for this text's walks alone
set_option linter.unusedVariables false
set_option linter.unusedSimpArgs false

/-! ### hogsheadlaw12_HeadLays: function 7 -/
mutual
def hogsheadlaw12_HeadLays.j0 : Nat → ByteArray → Int → Int → ByteArray → Bool → Option (Bool)
  | 0, _, _, _, _, _ => none
  | k + 1, x0, x1, x2, x3, x21 => if x21 = true then ((hogsheadlaw12_awake.f k).bind fun t185 => (some t185)) else ((head_Lay.f k x0 x1 x2 x3).bind fun bt186 => ((hogsheadref12_Lay.f k x0 x1 x2 x3).bind fun bt190 => ((hogsheadlaw0_SameBytes.f k bt186.1 bt190.1).bind fun t194 => (if t194 = true then (hogsheadlaw12_HeadLays.j1 k x0 x1 x2 x3 bt186.1 bt190.1 (bt186.2 == bt190.2)) else (hogsheadlaw12_HeadLays.j1 k x0 x1 x2 x3 bt186.1 bt190.1 false)))))
def hogsheadlaw12_HeadLays.j1 : Nat → ByteArray → Int → Int → ByteArray → List Int → List Int → Bool → Option (Bool)
  | 0, _, _, _, _, _, _, _ => none
  | k + 1, x0, x1, x2, x3, x9, x11, x13 => (hogsheadlaw0_OverBytes.f k x9).bind fun _ => ((head_Lay.f k x0 x1 x2 x3).bind fun bt195 => (if x13 = true then ((hogsheadlaw0_SameBytes.f k bt195.1 x11).bind fun t199 => (if t199 = true then ((hogsheadlaw12_awake.f k).bind fun t200 => (some t200)) else (some false))) else (some false)))
end
def hogsheadlaw12_HeadLays.f (k : Nat) (a0 : ByteArray) (a1 : Int) (a2 : Int) (a3 : ByteArray) : Option (Bool) := if (a0.size : Int) > 120 then (hogsheadlaw12_HeadLays.j0 k a0 a1 a2 a3 true) else (hogsheadlaw12_HeadLays.j0 k a0 a1 a2 a3 (decide ((a3.size : Int) > 120)))
theorem hogsheadlaw12_HeadLays.mono_l : ∀ k, (∀ y0 y1 y2 y3 y4, LeO (hogsheadlaw12_HeadLays.j0 k y0 y1 y2 y3 y4) (hogsheadlaw12_HeadLays.j0 (k + 1) y0 y1 y2 y3 y4)) ∧ (∀ y0 y1 y2 y3 y4 y5 y6, LeO (hogsheadlaw12_HeadLays.j1 k y0 y1 y2 y3 y4 y5 y6) (hogsheadlaw12_HeadLays.j1 (k + 1) y0 y1 y2 y3 y4 y5 y6))
  | 0 => ⟨fun _ _ _ _ _ r h => by simp [hogsheadlaw12_HeadLays.j0] at h, fun _ _ _ _ _ _ _ r h => by simp [hogsheadlaw12_HeadLays.j1] at h⟩
  | k + 1 => by
    obtain ⟨ih0, ih1⟩ := hogsheadlaw12_HeadLays.mono_l k
    refine ⟨?_, ?_⟩
    · intro y0 y1 y2 y3 y4
      unfold hogsheadlaw12_HeadLays.j0
      repeat' first
      | (with_reducible exact ih0 _ _ _ _ _)
      | (with_reducible exact ih1 _ _ _ _ _ _ _)
      | (with_reducible exact head_Lay.mono _ _ _ _ _)
      | (with_reducible exact hogsheadlaw0_OverBytes.mono _ _)
      | (with_reducible exact hogsheadlaw0_SameBytes.mono _ _ _)
      | (with_reducible exact hogsheadlaw12_awake.mono _)
      | (with_reducible exact hogsheadref12_Lay.mono _ _ _ _ _)
      | (with_reducible exact LeO.refl _)
      | (with_reducible exact LeO.none _)
      | (with_reducible refine LeO.ite ?_ ?_)
      | (with_reducible refine LeO.bind ?_ (fun _ => ?_))
      | exact ih0 _ _ _ _ _
      | exact ih1 _ _ _ _ _ _ _
      | exact head_Lay.mono _ _ _ _ _
      | exact hogsheadlaw0_OverBytes.mono _ _
      | exact hogsheadlaw0_SameBytes.mono _ _ _
      | exact hogsheadlaw12_awake.mono _
      | exact hogsheadref12_Lay.mono _ _ _ _ _
      | exact LeO.none _
      | refine LeO.ite ?_ ?_
      | refine LeO.bind ?_ (fun _ => ?_)
    · intro y0 y1 y2 y3 y4 y5 y6
      unfold hogsheadlaw12_HeadLays.j1
      repeat' first
      | (with_reducible exact ih0 _ _ _ _ _)
      | (with_reducible exact ih1 _ _ _ _ _ _ _)
      | (with_reducible exact head_Lay.mono _ _ _ _ _)
      | (with_reducible exact hogsheadlaw0_OverBytes.mono _ _)
      | (with_reducible exact hogsheadlaw0_SameBytes.mono _ _ _)
      | (with_reducible exact hogsheadlaw12_awake.mono _)
      | (with_reducible exact hogsheadref12_Lay.mono _ _ _ _ _)
      | (with_reducible exact LeO.refl _)
      | (with_reducible exact LeO.none _)
      | (with_reducible refine LeO.ite ?_ ?_)
      | (with_reducible refine LeO.bind ?_ (fun _ => ?_))
      | exact ih0 _ _ _ _ _
      | exact ih1 _ _ _ _ _ _ _
      | exact head_Lay.mono _ _ _ _ _
      | exact hogsheadlaw0_OverBytes.mono _ _
      | exact hogsheadlaw0_SameBytes.mono _ _ _
      | exact hogsheadlaw12_awake.mono _
      | exact hogsheadref12_Lay.mono _ _ _ _ _
      | exact LeO.none _
      | refine LeO.ite ?_ ?_
      | refine LeO.bind ?_ (fun _ => ?_)
theorem hogsheadlaw12_HeadLays.mono : ∀ a0 a1 a2 a3 k, LeO (hogsheadlaw12_HeadLays.f k a0 a1 a2 a3) (hogsheadlaw12_HeadLays.f (k + 1) a0 a1 a2 a3) := by
  intro a0 a1 a2 a3 k
  obtain ⟨ih0, ih1⟩ := hogsheadlaw12_HeadLays.mono_l k
  unfold hogsheadlaw12_HeadLays.f
  repeat' first
      | (with_reducible exact ih0 _ _ _ _ _)
      | (with_reducible exact ih1 _ _ _ _ _ _ _)
      | (with_reducible exact head_Lay.mono _ _ _ _ _)
      | (with_reducible exact hogsheadlaw0_OverBytes.mono _ _)
      | (with_reducible exact hogsheadlaw0_SameBytes.mono _ _ _)
      | (with_reducible exact hogsheadlaw12_awake.mono _)
      | (with_reducible exact hogsheadref12_Lay.mono _ _ _ _ _)
      | (with_reducible exact LeO.refl _)
      | (with_reducible exact LeO.none _)
      | (with_reducible refine LeO.ite ?_ ?_)
      | (with_reducible refine LeO.bind ?_ (fun _ => ?_))
      | exact ih0 _ _ _ _ _
      | exact ih1 _ _ _ _ _ _ _
      | exact head_Lay.mono _ _ _ _ _
      | exact hogsheadlaw0_OverBytes.mono _ _
      | exact hogsheadlaw0_SameBytes.mono _ _ _
      | exact hogsheadlaw12_awake.mono _
      | exact hogsheadref12_Lay.mono _ _ _ _ _
      | exact LeO.none _
      | refine LeO.ite ?_ ?_
      | refine LeO.bind ?_ (fun _ => ?_)
set_option maxHeartbeats 8000000 in
set_option maxRecDepth 100000 in
theorem hogsheadlaw12_HeadLays.calls (k : Nat) (a0 : ByteArray) (a1 : Int) (a2 : Int) (a3 : ByteArray) (r : Bool) (w : World) (hT : Aside0 (Tabs w)) (h : hogsheadlaw12_HeadLays.f k a0 a1 a2 a3 = some r) :
    Calls Tryd.prog 7 #[.string a0, .int .i64 a1, .int .i64 a2, .string a3] w fun e w' => e = .returned (.bool r) ∧ Below w.heap.size w w' := by
  have HB := Aside0.mk (Below.refl w.heap.size w)
  have H : (if (a0.size : Int) > 120 then (hogsheadlaw12_HeadLays.j0 k a0 a1 a2 a3 true) else (hogsheadlaw12_HeadLays.j0 k a0 a1 a2 a3 (decide ((a3.size : Int) > 120)))) = some r := h
  clear h
  have HC5 := Aside0.mk H
  clear H
  go_enter Tryd.func7, Tryd.ntmps7
  go_upto_region 1 with (fail)
  go_cut [21] (fun v21 wc => ∃ (kq : Nat) (x21_4 : Bool), v21 = .bool x21_4 ∧ Aside0 (hogsheadlaw12_HeadLays.j0 kq a0 a1 a2 a3 x21_4 = some r) ∧ Aside0 (kq ≤ k) ∧ Aside0 (Below w.heap.size w wc))
  case first =>
    have H := HC5.out
    clear HC5
    by_cases c6 : (a0.size : Int) > 120
    · rw [if_pos c6] at H
      have c6b0 : decide (120 < (a0.size : Int)) = true := decide_eq_true c6
      have c6b1 : decide (120 < a0.size) = true := decide_eq_true (by omega)
      clear c6
      (first | rw [c6b0] | (simp only [i64_w, i32_w]; rw [c6b0]) | skip)
      have H' := Aside0.mk H
      clear H
      go_wp2
      go_meet
      case rel => exact ⟨_, (true), (by first | rfl | (simp; done) | (simp [*]; done)), H', ⟨by first | omega | exact Nat.le_refl _⟩, ⟨by repeat (first | (with_reducible first | exact HB.out | apply below_alloc | apply pw_below_drewN | apply below_drew1) | exact HB.out)⟩⟩
    · rw [if_neg c6] at H
      have c6b0 : decide (120 < (a0.size : Int)) = false := decide_eq_false c6
      have c6b1 : decide (120 < a0.size) = false := decide_eq_false (by omega)
      clear c6
      (first | rw [c6b0] | (simp only [i64_w, i32_w]; rw [c6b0]) | skip)
      have H' := Aside0.mk H
      clear H
      go_wp2
      go_meet
      case rel => exact ⟨_, (decide ((a3.size : Int) > 120)), (by first | rfl | (simp; done) | (simp [*]; done)), H', ⟨by first | omega | exact Nat.le_refl _⟩, ⟨by repeat (first | (with_reducible first | exact HB.out | apply below_alloc | apply pw_below_drewN | apply below_drew1) | exact HB.out)⟩⟩
  case rest =>
    clear HC5
    try clear p2
    try clear c6
    try clear c6b0
    try clear c6b1
    obtain ⟨kq, x21_4, rfl, HA, HJ4, HB⟩ := hcut
    cases kq with
    | zero => exact absurd HA.out (by simp [hogsheadlaw12_HeadLays.j0])
    | succ kj4 =>
      have H := HA.out
      clear HA
      simp only [hogsheadlaw12_HeadLays.j0] at H
      by_cases c7 : x21_4 = true
      · subst c7
        have H1 : ((hogsheadlaw12_awake.f kj4).bind fun t185 => (some t185)) = some r := by rw [if_pos rfl] at H; exact H
        clear H
        have H := H1
        clear H1
        replace H := Option.bind_eq_some_iff.mp H
        obtain ⟨t185, A80, H⟩ := H
        replace H : (some t185) = some r := H
        have A8 := Aside0.mk A80
        clear A80
        obtain rfl := Option.some.inj H
        go_wp2_with (first | ((with_reducible refine gate_callee (f := 23) rfl ?_); refine goesL_ (some 22) rfl rfl Tryd.func23 (by kernel_rfl) rfl #[] rfl (by (try simp only [List.map_toArray, List.map_cons, List.map_nil]); first | done | rfl | (simp only [List.length_drop, List.length_take]; rfl)) ?_; (with_reducible refine (hogsheadlaw12_awake.calls kj4  t185 _ ?side1 A8.out).mono ?_); (case side1 => exact ⟨Tabs.below hT.out (by repeat (first | (with_reducible first | exact HB.out | apply below_alloc | apply pw_below_drewN | apply below_drew1) | exact HB.out))⟩); rintro e w9 ⟨rfl, hb⟩; refine ⟨_, rfl, ?_⟩; have n0_ := Aside0.mk (below_step (by repeat (first | (with_reducible first | exact HB.out | apply below_alloc | apply pw_below_drewN | apply below_drew1) | exact HB.out)) hb); clear HB; have HB := n0_; clear n0_; (try clear hb); (try clear hb2); (try clear hk); (try clear hi)))
        go_ret
        exact ⟨by first | rfl | (simp [errW_none, errW_some] <;> rfl) | (simp [*, errW_none, errW_some] <;> rfl), by repeat (first | (with_reducible first | exact HB.out | apply below_alloc | apply pw_below_drewN | apply below_drew1) | exact HB.out)⟩
      · replace c7 := Bool.eq_false_iff.mpr c7
        subst c7
        have H1 : ((head_Lay.f kj4 a0 a1 a2 a3).bind fun bt186 => ((hogsheadref12_Lay.f kj4 a0 a1 a2 a3).bind fun bt190 => ((hogsheadlaw0_SameBytes.f kj4 bt186.1 bt190.1).bind fun t194 => (if t194 = true then (hogsheadlaw12_HeadLays.j1 kj4 a0 a1 a2 a3 bt186.1 bt190.1 (bt186.2 == bt190.2)) else (hogsheadlaw12_HeadLays.j1 kj4 a0 a1 a2 a3 bt186.1 bt190.1 false))))) = some r := by rw [if_neg (show ¬ (false = true) by decide)] at H; exact H
        clear H
        have H := H1
        clear H1
        replace H := Option.bind_eq_some_iff.mp H
        obtain ⟨⟨t186, t187⟩, A100, H⟩ := H
        replace H : ((hogsheadref12_Lay.f kj4 a0 a1 a2 a3).bind fun bt190 => ((hogsheadlaw0_SameBytes.f kj4 t186 bt190.1).bind fun t194 => (if t194 = true then (hogsheadlaw12_HeadLays.j1 kj4 a0 a1 a2 a3 t186 bt190.1 (t187 == bt190.2)) else (hogsheadlaw12_HeadLays.j1 kj4 a0 a1 a2 a3 t186 bt190.1 false)))) = some r := H
        have A10 := Aside0.mk A100
        clear A100
        replace H := Option.bind_eq_some_iff.mp H
        obtain ⟨⟨t190, t191⟩, A110, H⟩ := H
        replace H : ((hogsheadlaw0_SameBytes.f kj4 t186 t190).bind fun t194 => (if t194 = true then (hogsheadlaw12_HeadLays.j1 kj4 a0 a1 a2 a3 t186 t190 (t187 == t191)) else (hogsheadlaw12_HeadLays.j1 kj4 a0 a1 a2 a3 t186 t190 false))) = some r := H
        have A11 := Aside0.mk A110
        clear A110
        have HC12 := Aside0.mk H
        clear H
        go_upto_region 5 with (first | ((with_reducible refine gate_callee (f := 28) rfl ?_); refine goesL_ (some 28) rfl rfl Tryd.func28 (by kernel_rfl) rfl #[.string a0, .int .i64 a1, .int .i64 a2, .string a3] rfl (by (try simp only [List.map_toArray, List.map_cons, List.map_nil]); first | done | rfl | (simp only [List.length_drop, List.length_take]; rfl)) ?_; (with_reducible refine (head_Lay.calls kj4 a0 a1 a2 a3 t186 t187 _ ?side1 A10.out).mono ?_); (case side1 => exact ⟨Tabs.below hT.out (by repeat (first | (with_reducible first | exact HB.out | apply below_alloc | apply pw_below_drewN | apply below_drew1) | exact HB.out))⟩); rintro e w13 ⟨v188, rfl, ho0, hb⟩; refine ⟨_, rfl, ?_⟩; have n0_ := Aside0.mk (Kd.R_lower ho0 (below_size (by repeat (first | (with_reducible first | exact HB.out | apply below_alloc | apply pw_below_drewN | apply below_drew1) | exact HB.out)))); have n1_ := Aside0.mk (below_step (by repeat (first | (with_reducible first | exact HB.out | apply below_alloc | apply pw_below_drewN | apply below_drew1) | exact HB.out)) hb); clear HB; have HO189 := n0_; have HB := n1_; clear n0_ n1_; (try clear hb); (try clear hb2); (try clear hk); (try clear hi); (try clear ho0)) | ((with_reducible refine gate_callee (f := 29) rfl ?_); refine goesL_ (some 36) rfl rfl Tryd.func29 (by kernel_rfl) rfl #[.string a0, .int .i64 a1, .int .i64 a2, .string a3] rfl (by (try simp only [List.map_toArray, List.map_cons, List.map_nil]); first | done | rfl | (simp only [List.length_drop, List.length_take]; rfl)) ?_; (with_reducible refine (hogsheadref12_Lay.calls kj4 a0 a1 a2 a3 t190 t191 _ A11.out).mono ?_); rintro e w14 ⟨v192, rfl, ho0, hb⟩; refine ⟨_, rfl, ?_⟩; have n0_ := Aside0.mk (Kd.R_elder' (by (with_reducible repeat (first | apply Kd.R_alloc | apply Kd.R_drewN | apply Kd.R_drew)); exact HO189.out) (Kd.R_base ho0) hb); have n1_ := Aside0.mk (Kd.R_lower (Kd.R_new' ho0 (Kd.R_lt (by (with_reducible repeat (first | apply Kd.R_alloc | apply Kd.R_drewN | apply Kd.R_drew)); exact HO189.out))) (below_size (by repeat (first | (with_reducible first | exact HB.out | apply below_alloc | apply pw_below_drewN | apply below_drew1) | exact HB.out)))); have n2_ := Aside0.mk (below_step (by repeat (first | (with_reducible first | exact HB.out | apply below_alloc | apply pw_below_drewN | apply below_drew1) | exact HB.out)) hb); clear HO189; clear HB; have HO189 := n0_; have HO193 := n1_; have HB := n2_; clear n0_ n1_ n2_; (try clear hb); (try clear hb2); (try clear hk); (try clear hi); (try clear ho0)))
        (try simp only [Act.put, List.setIfInBounds_toArray, List.set_cons_zero, List.set_cons_succ])
        go_cut [13] (fun v13 wc => ∃ (kq : Nat) (x13_11 : Bool), v13 = .bool x13_11 ∧ Aside0 (hogsheadlaw12_HeadLays.j1 kq a0 a1 a2 a3 t186 t190 x13_11 = some r) ∧ Aside0 (kq ≤ kj4) ∧ Aside0 (Kd.R (Kd.int .u8) 5 wc w.heap.size (fun k_ => some k_ ≠ (v192 : Value).ownBlock) v188 t186) ∧ Aside0 (Kd.R (Kd.int .u8) 5 wc w.heap.size (fun k_ => some k_ ≠ (v188 : Value).ownBlock) v192 t190) ∧ Aside0 (Below w.heap.size w wc))
        case first =>
          have H := HC12.out
          clear HC12
          replace H := Option.bind_eq_some_iff.mp H
          obtain ⟨t194, A150, H⟩ := H
          replace H : (if t194 = true then (hogsheadlaw12_HeadLays.j1 kj4 a0 a1 a2 a3 t186 t190 (t187 == t191)) else (hogsheadlaw12_HeadLays.j1 kj4 a0 a1 a2 a3 t186 t190 false)) = some r := H
          have A15 := Aside0.mk A150
          clear A150
          by_cases c16 : t194 = true
          · subst c16
            have H1 : (hogsheadlaw12_HeadLays.j1 kj4 a0 a1 a2 a3 t186 t190 (t187 == t191)) = some r := by rw [if_pos rfl] at H; exact H
            clear H
            have H := H1
            clear H1
            have H' := Aside0.mk H
            clear H
            obtain ⟨Ao17, co17, eo17⟩ := Kd.R_slice HO189.out
            subst eo17
            obtain ⟨Ao18, co18, eo18⟩ := Kd.R_slice HO193.out
            subst eo18
            go_wp2_with (first | ((with_reducible refine gate_callee (f := 30) rfl ?_); refine goesL_ (some 41) rfl rfl Tryd.func30 (by kernel_rfl) rfl #[.slice Ao17 t186.length co17, .slice Ao18 t190.length co18] rfl (by (try simp only [List.map_toArray, List.map_cons, List.map_nil]); first | done | rfl | (simp only [List.length_drop, List.length_take]; rfl)) ?_; (with_reducible refine (hogsheadlaw0_SameBytes.calls kj4 _ _ t186 _ _ t190 true _ ?side1 ?side2 ?side3 ?side4 A15.out).mono ?_); (case side1 => repeat (first | exact (Kd.R_reads' HO189.out).2.2 | (with_reducible refine Kd.C_alloc ?_ _) | (with_reducible refine Kd.C_drewN ?_ _) | (with_reducible refine Kd.C_drew ?_))); (case side2 => exact (Kd.R_reads' HO189.out).2.1); (case side3 => repeat (first | exact (Kd.R_reads' HO193.out).2.2 | (with_reducible refine Kd.C_alloc ?_ _) | (with_reducible refine Kd.C_drewN ?_ _) | (with_reducible refine Kd.C_drew ?_))); (case side4 => exact (Kd.R_reads' HO193.out).2.1); rintro e w' ⟨rfl, ⟨nd, rfl⟩⟩; refine ⟨_, rfl, ?_⟩))
            go_meet
            case rel => exact ⟨_, ((t187 == t191)), (by first | rfl | (simp; done) | (simp [*]; done)), H', ⟨by have := HJ4.out; first | omega | exact Nat.le_refl _⟩, ⟨by (with_reducible repeat (first | apply Kd.R_alloc | apply Kd.R_drewN | apply Kd.R_drew)); exact Kd.R_mono HO189.out (fun _ hk => hk.2)⟩, ⟨by (with_reducible repeat (first | apply Kd.R_alloc | apply Kd.R_drewN | apply Kd.R_drew)); exact Kd.R_mono HO193.out (fun _ hk => hk.2)⟩, ⟨by repeat (first | (with_reducible first | exact HB.out | apply below_alloc | apply pw_below_drewN | apply below_drew1) | exact HB.out)⟩⟩
          · replace c16 := Bool.eq_false_iff.mpr c16
            subst c16
            have H1 : (hogsheadlaw12_HeadLays.j1 kj4 a0 a1 a2 a3 t186 t190 false) = some r := by rw [if_neg (show ¬ (false = true) by decide)] at H; exact H
            clear H
            have H := H1
            clear H1
            have H' := Aside0.mk H
            clear H
            obtain ⟨Ao19, co19, eo19⟩ := Kd.R_slice HO189.out
            subst eo19
            obtain ⟨Ao20, co20, eo20⟩ := Kd.R_slice HO193.out
            subst eo20
            go_wp2_with (first | ((with_reducible refine gate_callee (f := 30) rfl ?_); refine goesL_ (some 41) rfl rfl Tryd.func30 (by kernel_rfl) rfl #[.slice Ao19 t186.length co19, .slice Ao20 t190.length co20] rfl (by (try simp only [List.map_toArray, List.map_cons, List.map_nil]); first | done | rfl | (simp only [List.length_drop, List.length_take]; rfl)) ?_; (with_reducible refine (hogsheadlaw0_SameBytes.calls kj4 _ _ t186 _ _ t190 false _ ?side1 ?side2 ?side3 ?side4 A15.out).mono ?_); (case side1 => repeat (first | exact (Kd.R_reads' HO189.out).2.2 | (with_reducible refine Kd.C_alloc ?_ _) | (with_reducible refine Kd.C_drewN ?_ _) | (with_reducible refine Kd.C_drew ?_))); (case side2 => exact (Kd.R_reads' HO189.out).2.1); (case side3 => repeat (first | exact (Kd.R_reads' HO193.out).2.2 | (with_reducible refine Kd.C_alloc ?_ _) | (with_reducible refine Kd.C_drewN ?_ _) | (with_reducible refine Kd.C_drew ?_))); (case side4 => exact (Kd.R_reads' HO193.out).2.1); rintro e w' ⟨rfl, ⟨nd, rfl⟩⟩; refine ⟨_, rfl, ?_⟩))
            go_meet
            case rel => exact ⟨_, (false), (by first | rfl | (simp; done) | (simp [*]; done)), H', ⟨by have := HJ4.out; first | omega | exact Nat.le_refl _⟩, ⟨by (with_reducible repeat (first | apply Kd.R_alloc | apply Kd.R_drewN | apply Kd.R_drew)); exact Kd.R_mono HO189.out (fun _ hk => hk.2)⟩, ⟨by (with_reducible repeat (first | apply Kd.R_alloc | apply Kd.R_drewN | apply Kd.R_drew)); exact Kd.R_mono HO193.out (fun _ hk => hk.2)⟩, ⟨by repeat (first | (with_reducible first | exact HB.out | apply below_alloc | apply pw_below_drewN | apply below_drew1) | exact HB.out)⟩⟩
        case rest =>
          clear HC12
          try clear c1
          try clear c2
          try clear p2
          try clear c3
          try clear c6
          try clear c6b0
          try clear c6b1
          try clear c7
          try clear c16
          try clear p2
          obtain ⟨kq, x13_11, rfl, HA, HJ11, HO_9, HO_11, HB⟩ := hcut
          cases kq with
          | zero => exact absurd HA.out (by simp [hogsheadlaw12_HeadLays.j1])
          | succ kj11 =>
            have H := HA.out
            clear HA
            simp only [hogsheadlaw12_HeadLays.j1] at H
            replace H := Option.bind_eq_some_iff.mp H
            obtain ⟨_, A210, H⟩ := H
            replace H : ((head_Lay.f kj11 a0 a1 a2 a3).bind fun bt195 => (if x13_11 = true then ((hogsheadlaw0_SameBytes.f kj11 bt195.1 t190).bind fun t199 => (if t199 = true then ((hogsheadlaw12_awake.f kj11).bind fun t200 => (some t200)) else (some false))) else (some false))) = some r := H
            have A21 := Aside0.mk A210
            clear A210
            replace H := Option.bind_eq_some_iff.mp H
            obtain ⟨⟨t195, t196⟩, A220, H⟩ := H
            replace H : (if x13_11 = true then ((hogsheadlaw0_SameBytes.f kj11 t195 t190).bind fun t199 => (if t199 = true then ((hogsheadlaw12_awake.f kj11).bind fun t200 => (some t200)) else (some false))) else (some false)) = some r := H
            have A22 := Aside0.mk A220
            clear A220
            by_cases c23 : x13_11 = true
            · subst c23
              have H1 : ((hogsheadlaw0_SameBytes.f kj11 t195 t190).bind fun t199 => (if t199 = true then ((hogsheadlaw12_awake.f kj11).bind fun t200 => (some t200)) else (some false))) = some r := by rw [if_pos rfl] at H; exact H
              clear H
              have H := H1
              clear H1
              replace H := Option.bind_eq_some_iff.mp H
              obtain ⟨t199, A240, H⟩ := H
              replace H : (if t199 = true then ((hogsheadlaw12_awake.f kj11).bind fun t200 => (some t200)) else (some false)) = some r := H
              have A24 := Aside0.mk A240
              clear A240
              by_cases c25 : t199 = true
              · subst c25
                have H1 : ((hogsheadlaw12_awake.f kj11).bind fun t200 => (some t200)) = some r := by rw [if_pos rfl] at H; exact H
                clear H
                have H := H1
                clear H1
                replace H := Option.bind_eq_some_iff.mp H
                obtain ⟨t200, A260, H⟩ := H
                replace H : (some t200) = some r := H
                have A26 := Aside0.mk A260
                clear A260
                obtain rfl := Option.some.inj H
                obtain ⟨Ao27, co27, eo27⟩ := Kd.R_slice HO_9.out
                subst eo27
                go_wp2_with (first | ((with_reducible refine gate_callee (f := 31) rfl ?_); refine goesL_ (some 48) rfl rfl Tryd.func31 (by kernel_rfl) rfl #[.slice Ao27 t186.length co27] rfl (by (try simp only [List.map_toArray, List.map_cons, List.map_nil]); first | done | rfl | (simp only [List.length_drop, List.length_take]; rfl)) ?_; (with_reducible refine (hogsheadlaw0_OverBytes.calls kj11 (fun k_ => some k_ = (.slice Ao27 t186.length co27 : Value).ownBlock) (.slice Ao27 t186.length co27) t186  w _ ?side1 ?side2 A21.out).mono ?_); (case side1 => repeat (first | (with_reducible first | exact HB.out | apply below_alloc | apply pw_below_drewN | apply below_drew1) | exact HB.out)); (case side2 => exact Kd.R_tight rfl HO_9.out); rintro e w28 ⟨rfl, hb, hkp⟩; refine ⟨_, rfl, ?_⟩; have n0_ := Aside0.mk (Kd.R_mono (ok' := fun k_ => True) (Kd.R_keptB (HO_11.out) hkp (fun k_ hk_ hs_ => (hk_) hs_)) (fun k_ hk_ => trivial)); have n1_ := Aside0.mk (hb); clear HO_11; clear HB; clear HO_9; have HO_11 := n0_; have HB := n1_; clear n0_ n1_; (try clear hb); (try clear hkp)) | ((with_reducible refine gate_callee (f := 28) rfl ?_); refine goesL_ (some 54) rfl rfl Tryd.func28 (by kernel_rfl) rfl #[.string a0, .int .i64 a1, .int .i64 a2, .string a3] rfl (by (try simp only [List.map_toArray, List.map_cons, List.map_nil]); first | done | rfl | (simp only [List.length_drop, List.length_take]; rfl)) ?_; (with_reducible refine (head_Lay.calls kj11 a0 a1 a2 a3 t195 t196 _ ?side1 A22.out).mono ?_); (case side1 => exact ⟨Tabs.below hT.out (by repeat (first | (with_reducible first | exact HB.out | apply below_alloc | apply pw_below_drewN | apply below_drew1) | exact HB.out))⟩); rintro e w29 ⟨v197, rfl, ho0, hb⟩; refine ⟨_, rfl, ?_⟩; have n0_ := Aside0.mk (Kd.R_elder' (by (with_reducible repeat (first | apply Kd.R_alloc | apply Kd.R_drewN | apply Kd.R_drew)); exact HO_11.out) (Kd.R_base ho0) hb); have n1_ := Aside0.mk (Kd.R_lower (Kd.R_new' ho0 (Kd.R_lt (by (with_reducible repeat (first | apply Kd.R_alloc | apply Kd.R_drewN | apply Kd.R_drew)); exact HO_11.out))) (below_size (by repeat (first | (with_reducible first | exact HB.out | apply below_alloc | apply pw_below_drewN | apply below_drew1) | exact HB.out)))); have n2_ := Aside0.mk (below_step (by repeat (first | (with_reducible first | exact HB.out | apply below_alloc | apply pw_below_drewN | apply below_drew1) | exact HB.out)) hb); clear HO_11; clear HB; have HO_11 := n0_; have HO198 := n1_; have HB := n2_; clear n0_ n1_ n2_; (try clear hb); (try clear hb2); (try clear hk); (try clear hi); (try clear ho0); obtain ⟨Ao30, co30, eo30⟩ := Kd.R_slice HO198.out; subst eo30; obtain ⟨Ao31, co31, eo31⟩ := Kd.R_slice HO_11.out; subst eo31) | (go_at_call 30; (with_reducible refine (hogsheadlaw0_SameBytes.calls kj11 _ _ t195 _ _ t190 true _ ?side1 ?side2 ?side3 ?side4 A24.out).mono ?_); (case side1 => repeat (first | exact (Kd.R_reads' HO198.out).2.2 | (with_reducible refine Kd.C_alloc ?_ _) | (with_reducible refine Kd.C_drewN ?_ _) | (with_reducible refine Kd.C_drew ?_))); (case side2 => exact (Kd.R_reads' HO198.out).2.1); (case side3 => repeat (first | exact (Kd.R_reads' HO_11.out).2.2 | (with_reducible refine Kd.C_alloc ?_ _) | (with_reducible refine Kd.C_drewN ?_ _) | (with_reducible refine Kd.C_drew ?_))); (case side4 => exact (Kd.R_reads' HO_11.out).2.1); rintro e w' ⟨rfl, ⟨nd, rfl⟩⟩) | (go_at_call 23; (with_reducible refine (hogsheadlaw12_awake.calls kj11  t200 _ ?side1 A26.out).mono ?_); (case side1 => exact ⟨Tabs.below hT.out (by repeat (first | (with_reducible first | exact HB.out | apply below_alloc | apply pw_below_drewN | apply below_drew1) | exact HB.out))⟩); rintro e w32 ⟨rfl, hb⟩; have n0_ := Aside0.mk (Kd.R_below (by (with_reducible repeat (first | apply Kd.R_alloc | apply Kd.R_drewN | apply Kd.R_drew)); exact HO_11.out) hb); have n1_ := Aside0.mk (Kd.R_below (by (with_reducible repeat (first | apply Kd.R_alloc | apply Kd.R_drewN | apply Kd.R_drew)); exact HO198.out) hb); have n2_ := Aside0.mk (below_step (by repeat (first | (with_reducible first | exact HB.out | apply below_alloc | apply pw_below_drewN | apply below_drew1) | exact HB.out)) hb); clear HO_11; clear HO198; clear HB; have HO_11 := n0_; have HO198 := n1_; have HB := n2_; clear n0_ n1_ n2_; (try clear hb); (try clear hb2); (try clear hk); (try clear hi)))
                go_ret
                exact ⟨by first | rfl | (simp [errW_none, errW_some] <;> rfl) | (simp [*, errW_none, errW_some] <;> rfl), by repeat (first | (with_reducible first | exact HB.out | apply below_alloc | apply pw_below_drewN | apply below_drew1) | exact HB.out)⟩
              · replace c25 := Bool.eq_false_iff.mpr c25
                subst c25
                have H1 : (some false) = some r := by rw [if_neg (show ¬ (false = true) by decide)] at H; exact H
                clear H
                have H := H1
                clear H1
                obtain rfl := Option.some.inj H
                obtain ⟨Ao33, co33, eo33⟩ := Kd.R_slice HO_9.out
                subst eo33
                go_wp2_with (first | ((with_reducible refine gate_callee (f := 31) rfl ?_); refine goesL_ (some 48) rfl rfl Tryd.func31 (by kernel_rfl) rfl #[.slice Ao33 t186.length co33] rfl (by (try simp only [List.map_toArray, List.map_cons, List.map_nil]); first | done | rfl | (simp only [List.length_drop, List.length_take]; rfl)) ?_; (with_reducible refine (hogsheadlaw0_OverBytes.calls kj11 (fun k_ => some k_ = (.slice Ao33 t186.length co33 : Value).ownBlock) (.slice Ao33 t186.length co33) t186  w _ ?side1 ?side2 A21.out).mono ?_); (case side1 => repeat (first | (with_reducible first | exact HB.out | apply below_alloc | apply pw_below_drewN | apply below_drew1) | exact HB.out)); (case side2 => exact Kd.R_tight rfl HO_9.out); rintro e w34 ⟨rfl, hb, hkp⟩; refine ⟨_, rfl, ?_⟩; have n0_ := Aside0.mk (Kd.R_mono (ok' := fun k_ => True) (Kd.R_keptB (HO_11.out) hkp (fun k_ hk_ hs_ => (hk_) hs_)) (fun k_ hk_ => trivial)); have n1_ := Aside0.mk (hb); clear HO_11; clear HB; clear HO_9; have HO_11 := n0_; have HB := n1_; clear n0_ n1_; (try clear hb); (try clear hkp)) | ((with_reducible refine gate_callee (f := 28) rfl ?_); refine goesL_ (some 54) rfl rfl Tryd.func28 (by kernel_rfl) rfl #[.string a0, .int .i64 a1, .int .i64 a2, .string a3] rfl (by (try simp only [List.map_toArray, List.map_cons, List.map_nil]); first | done | rfl | (simp only [List.length_drop, List.length_take]; rfl)) ?_; (with_reducible refine (head_Lay.calls kj11 a0 a1 a2 a3 t195 t196 _ ?side1 A22.out).mono ?_); (case side1 => exact ⟨Tabs.below hT.out (by repeat (first | (with_reducible first | exact HB.out | apply below_alloc | apply pw_below_drewN | apply below_drew1) | exact HB.out))⟩); rintro e w35 ⟨v197, rfl, ho0, hb⟩; refine ⟨_, rfl, ?_⟩; have n0_ := Aside0.mk (Kd.R_elder' (by (with_reducible repeat (first | apply Kd.R_alloc | apply Kd.R_drewN | apply Kd.R_drew)); exact HO_11.out) (Kd.R_base ho0) hb); have n1_ := Aside0.mk (Kd.R_lower (Kd.R_new' ho0 (Kd.R_lt (by (with_reducible repeat (first | apply Kd.R_alloc | apply Kd.R_drewN | apply Kd.R_drew)); exact HO_11.out))) (below_size (by repeat (first | (with_reducible first | exact HB.out | apply below_alloc | apply pw_below_drewN | apply below_drew1) | exact HB.out)))); have n2_ := Aside0.mk (below_step (by repeat (first | (with_reducible first | exact HB.out | apply below_alloc | apply pw_below_drewN | apply below_drew1) | exact HB.out)) hb); clear HO_11; clear HB; have HO_11 := n0_; have HO198 := n1_; have HB := n2_; clear n0_ n1_ n2_; (try clear hb); (try clear hb2); (try clear hk); (try clear hi); (try clear ho0); obtain ⟨Ao36, co36, eo36⟩ := Kd.R_slice HO198.out; subst eo36; obtain ⟨Ao37, co37, eo37⟩ := Kd.R_slice HO_11.out; subst eo37) | (go_at_call 30; (with_reducible refine (hogsheadlaw0_SameBytes.calls kj11 _ _ t195 _ _ t190 false _ ?side1 ?side2 ?side3 ?side4 A24.out).mono ?_); (case side1 => repeat (first | exact (Kd.R_reads' HO198.out).2.2 | (with_reducible refine Kd.C_alloc ?_ _) | (with_reducible refine Kd.C_drewN ?_ _) | (with_reducible refine Kd.C_drew ?_))); (case side2 => exact (Kd.R_reads' HO198.out).2.1); (case side3 => repeat (first | exact (Kd.R_reads' HO_11.out).2.2 | (with_reducible refine Kd.C_alloc ?_ _) | (with_reducible refine Kd.C_drewN ?_ _) | (with_reducible refine Kd.C_drew ?_))); (case side4 => exact (Kd.R_reads' HO_11.out).2.1); rintro e w' ⟨rfl, ⟨nd, rfl⟩⟩))
                go_ret
                exact ⟨by first | rfl | (simp [errW_none, errW_some] <;> rfl) | (simp [*, errW_none, errW_some] <;> rfl), by repeat (first | (with_reducible first | exact HB.out | apply below_alloc | apply pw_below_drewN | apply below_drew1) | exact HB.out)⟩
            · replace c23 := Bool.eq_false_iff.mpr c23
              subst c23
              have H1 : (some false) = some r := by rw [if_neg (show ¬ (false = true) by decide)] at H; exact H
              clear H
              have H := H1
              clear H1
              obtain rfl := Option.some.inj H
              obtain ⟨Ao38, co38, eo38⟩ := Kd.R_slice HO_9.out
              subst eo38
              go_wp2_with (first | ((with_reducible refine gate_callee (f := 31) rfl ?_); refine goesL_ (some 48) rfl rfl Tryd.func31 (by kernel_rfl) rfl #[.slice Ao38 t186.length co38] rfl (by (try simp only [List.map_toArray, List.map_cons, List.map_nil]); first | done | rfl | (simp only [List.length_drop, List.length_take]; rfl)) ?_; (with_reducible refine (hogsheadlaw0_OverBytes.calls kj11 (fun k_ => some k_ = (.slice Ao38 t186.length co38 : Value).ownBlock) (.slice Ao38 t186.length co38) t186  w _ ?side1 ?side2 A21.out).mono ?_); (case side1 => repeat (first | (with_reducible first | exact HB.out | apply below_alloc | apply pw_below_drewN | apply below_drew1) | exact HB.out)); (case side2 => exact Kd.R_tight rfl HO_9.out); rintro e w39 ⟨rfl, hb, hkp⟩; refine ⟨_, rfl, ?_⟩; have n0_ := Aside0.mk (Kd.R_mono (ok' := fun k_ => True) (Kd.R_keptB (HO_11.out) hkp (fun k_ hk_ hs_ => (hk_) hs_)) (fun k_ hk_ => trivial)); have n1_ := Aside0.mk (hb); clear HO_11; clear HB; clear HO_9; have HO_11 := n0_; have HB := n1_; clear n0_ n1_; (try clear hb); (try clear hkp)) | ((with_reducible refine gate_callee (f := 28) rfl ?_); refine goesL_ (some 54) rfl rfl Tryd.func28 (by kernel_rfl) rfl #[.string a0, .int .i64 a1, .int .i64 a2, .string a3] rfl (by (try simp only [List.map_toArray, List.map_cons, List.map_nil]); first | done | rfl | (simp only [List.length_drop, List.length_take]; rfl)) ?_; (with_reducible refine (head_Lay.calls kj11 a0 a1 a2 a3 t195 t196 _ ?side1 A22.out).mono ?_); (case side1 => exact ⟨Tabs.below hT.out (by repeat (first | (with_reducible first | exact HB.out | apply below_alloc | apply pw_below_drewN | apply below_drew1) | exact HB.out))⟩); rintro e w40 ⟨v197, rfl, ho0, hb⟩; refine ⟨_, rfl, ?_⟩; have n0_ := Aside0.mk (Kd.R_elder' (by (with_reducible repeat (first | apply Kd.R_alloc | apply Kd.R_drewN | apply Kd.R_drew)); exact HO_11.out) (Kd.R_base ho0) hb); have n1_ := Aside0.mk (Kd.R_lower (Kd.R_new' ho0 (Kd.R_lt (by (with_reducible repeat (first | apply Kd.R_alloc | apply Kd.R_drewN | apply Kd.R_drew)); exact HO_11.out))) (below_size (by repeat (first | (with_reducible first | exact HB.out | apply below_alloc | apply pw_below_drewN | apply below_drew1) | exact HB.out)))); have n2_ := Aside0.mk (below_step (by repeat (first | (with_reducible first | exact HB.out | apply below_alloc | apply pw_below_drewN | apply below_drew1) | exact HB.out)) hb); clear HO_11; clear HB; have HO_11 := n0_; have HO198 := n1_; have HB := n2_; clear n0_ n1_ n2_; (try clear hb); (try clear hb2); (try clear hk); (try clear hi); (try clear ho0)))
              go_ret
              exact ⟨by first | rfl | (simp [errW_none, errW_some] <;> rfl) | (simp [*, errW_none, errW_some] <;> rfl), by repeat (first | (with_reducible first | exact HB.out | apply below_alloc | apply pw_below_drewN | apply below_drew1) | exact HB.out)⟩

end Go.Proofs.YtidlgdpjcognpaaDoor.P
