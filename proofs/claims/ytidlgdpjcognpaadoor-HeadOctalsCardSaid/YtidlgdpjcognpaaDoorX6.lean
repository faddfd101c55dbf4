/- hogsheadref12.Lay, walked by hand: copies fill a buffer. -/
import Derived.Test.YtidlgdpjcognpaaDoorXB
import Derived.Test.YtidlgdpjcognpaaDoorPf25
import Derived.Test.YtidlgdpjcognpaaDoorPf41
import Derived.Test.YtidlgdpjcognpaaDoorPf42
import Derived.Test.YtidlgdpjcognpaaDoorPf43
namespace Go.Proofs.YtidlgdpjcognpaaDoor.X
open Go.RowKit Go.Proofs.YtidlgdpjcognpaaDoorW.PrintWords Go.Proofs.YtidlgdpjcognpaaDoor.P
set_option linter.unusedVariables false
set_option linter.unusedSimpArgs false

def rlaid0 (name md dg : ByteArray) (lt : Int) (link : ByteArray) : List Int :=
  putB (putB ((putB (putB (putB (putB (putB (putB (putB zeros512 0 name) 100 md) 108 ⟨#[48, 48, 48, 48, 48, 48, 48]⟩) 116 ⟨#[48, 48, 48, 48, 48, 48, 48]⟩) 124 dg) 136 ⟨#[48, 48, 48, 48, 48, 48, 48, 48, 48, 48, 48]⟩) 148 ⟨#[32, 32, 32, 32, 32, 32, 32, 32]⟩).set 156 lt) 157 link) 257 ⟨#[117, 115, 116, 97, 114, 0, 48, 48]⟩
/-- What is laid, where the name, the kind and the link may be. -/
def hogsheadref12_Lay.g (k : Nat) (a0 : ByteArray) (a1 a2 : Int) (a3 : ByteArray) : Option (List Int × Bool) :=
  (hogsheadref12_Octal.f k a2 11).bind fun o => if o.2 = true then
    (hogsheadref12_mode.f a1).bind fun md => (hogsheadref12_letter.f a1).bind fun lt =>
      if md.size ≤ 412 ∧ o.1.size ≤ 388 then
        (hogsheadref12_Octal.f k (sumB (rlaid0 a0 md o.1 lt a3)) 6).bind fun q => if q.1.size + 2 ≤ 364 then some (putB (rlaid0 a0 md o.1 lt a3) 148 (q.1 ++ (⟨#[0, 32]⟩ : ByteArray)), true) else none
      else none
  else some ([], false)
def hogsheadref12_Lay.f (k : Nat) (a0 : ByteArray) (a1 a2 : Int) (a3 : ByteArray) : Option (List Int × Bool) :=
  if a0.toList = [] then some ([], false) else
  if (100 : Int) < a0.size then some ([], false) else
  (hogsheadref12_zero.f k a0).bind fun z => if z = true then some ([], false) else
  if (100 : Int) < a3.size then some ([], false) else
  (hogsheadref12_zero.f k a3).bind fun y => if y = true then some ([], false) else
  if a1 < 1 then some ([], false) else
  if 5 < a1 then some ([], false) else
  if ((a1 == 4) == (a3.toList == [])) = true then some ([], false) else
  if (a1 = 1 ∨ a1 = 4) ∧ a2 ≠ 0 then some ([], false) else
  hogsheadref12_Lay.g k a0 a1 a2 a3
theorem hogsheadref12_Lay.mono : ∀ a0 a1 a2 a3 k, LeO (hogsheadref12_Lay.f k a0 a1 a2 a3) (hogsheadref12_Lay.f (k + 1) a0 a1 a2 a3) := by
  intro a0 a1 a2 a3 k
  unfold hogsheadref12_Lay.f
  refine LeO.ite (LeO.refl _) <| LeO.ite (LeO.refl _) <| LeO.bind (hogsheadref12_zero.mono _ _) fun z => LeO.ite (LeO.refl _) <| LeO.ite (LeO.refl _) <| LeO.bind (hogsheadref12_zero.mono _ _) fun y => LeO.ite (LeO.refl _) <| LeO.ite (LeO.refl _) <| LeO.ite (LeO.refl _) <| LeO.ite (LeO.refl _) <| LeO.ite (LeO.refl _) ?_
  unfold hogsheadref12_Lay.g
  exact LeO.bind (hogsheadref12_Octal.mono _ _ _) fun o => LeO.ite (LeO.bind (LeO.refl _) fun md => LeO.bind (LeO.refl _) fun lt => LeO.ite (LeO.bind (hogsheadref12_Octal.mono _ _ _) fun q => LeO.refl _) (LeO.refl _)) (LeO.refl _)

set_option maxHeartbeats 12800000 in
set_option maxRecDepth 100000 in
theorem hogsheadref12_Lay.calls (k : Nat) (a0 : ByteArray) (a1 a2 : Int) (a3 : ByteArray) (r1 : List Int) (r2 : Bool) (w : World) (h : hogsheadref12_Lay.f k a0 a1 a2 a3 = some (r1, r2)) :
    Calls Tryd.prog 29 #[.string a0, .int .i64 a1, .int .i64 a2, .string a3] w fun e w' => ∃ v0_, e = .returned (.tuple #[v0_, .bool r2]) ∧ (Kd.int .u8).R 5 w' w.heap.size (fun _ => True) v0_ r1 ∧ Below w.heap.size w w' := by
  unfold hogsheadref12_Lay.f at h
  by_cases c1 : a0.toList = []
  · rw [if_pos c1] at h
    have c1a : (a0.toList == []) = true := beq_iff_eq.mpr c1
    obtain ⟨rfl, rfl⟩ := Prod.mk.inj (Option.some.inj h)
    go_enter Tryd.func29, Tryd.ntmps29
    go_wp2
    go_ret2
    exact ⟨_, rfl, Kd.R_nil _ _ _ _ _, by repeat (first | exact Below.refl _ _ | apply below_drew1 | apply pw_below_drewN)⟩
  rw [if_neg c1] at h
  have c1a : (a0.toList == []) = false := beq_eq_false_iff_ne.mpr c1
  by_cases c2 : (100 : Int) < a0.size
  · rw [if_pos c2] at h
    have c2a : decide ((100 : Int) < a0.size) = true := decide_eq_true c2
    obtain ⟨rfl, rfl⟩ := Prod.mk.inj (Option.some.inj h)
    go_enter Tryd.func29, Tryd.ntmps29
    go_wp2
    go_ret2
    exact ⟨_, rfl, Kd.R_nil _ _ _ _ _, by repeat (first | exact Below.refl _ _ | apply below_drew1 | apply pw_below_drewN)⟩
  rw [if_neg c2] at h
  have c2a : decide ((100 : Int) < a0.size) = false := decide_eq_false c2
  replace h := Option.bind_eq_some_iff.mp h
  obtain ⟨z, hz, h⟩ := h
  have Hz := Aside0.mk hz
  clear hz
  by_cases c3 : z = true
  · rw [if_pos c3] at h
    subst c3
    obtain ⟨rfl, rfl⟩ := Prod.mk.inj (Option.some.inj h)
    go_enter Tryd.func29, Tryd.ntmps29
    go_wp2_with (first | (go_at_call 41; refine (hogsheadref12_zero.calls k a0 true _ Hz.out).mono ?_; rintro e wn ⟨rfl, ⟨nz, rfl⟩⟩; (try clear Hz)))
    go_ret2
    exact ⟨_, rfl, Kd.R_nil _ _ _ _ _, by repeat (first | exact Below.refl _ _ | apply below_drew1 | apply pw_below_drewN)⟩
  rw [if_neg c3] at h
  obtain rfl : z = false := by simpa using c3
  clear c3
  by_cases c4 : (100 : Int) < a3.size
  · rw [if_pos c4] at h
    have c4a : decide ((100 : Int) < a3.size) = true := decide_eq_true c4
    obtain ⟨rfl, rfl⟩ := Prod.mk.inj (Option.some.inj h)
    go_enter Tryd.func29, Tryd.ntmps29
    go_wp2_with (first | (go_at_call 41; refine (hogsheadref12_zero.calls k a0 false _ Hz.out).mono ?_; rintro e wn ⟨rfl, ⟨nz, rfl⟩⟩; (try clear Hz)))
    go_ret2
    exact ⟨_, rfl, Kd.R_nil _ _ _ _ _, by repeat (first | exact Below.refl _ _ | apply below_drew1 | apply pw_below_drewN)⟩
  rw [if_neg c4] at h
  have c4a : decide ((100 : Int) < a3.size) = false := decide_eq_false c4
  replace h := Option.bind_eq_some_iff.mp h
  obtain ⟨y, hy, h⟩ := h
  have Hy := Aside0.mk hy
  clear hy
  by_cases c5 : y = true
  · rw [if_pos c5] at h
    subst c5
    obtain ⟨rfl, rfl⟩ := Prod.mk.inj (Option.some.inj h)
    go_enter Tryd.func29, Tryd.ntmps29
    go_wp2_with (first | (go_at_call 41; refine (hogsheadref12_zero.calls k a0 false _ Hz.out).mono ?_; rintro e wn ⟨rfl, ⟨nz, rfl⟩⟩; (try clear Hz)) | (go_at_call 41; refine (hogsheadref12_zero.calls k a3 true _ Hy.out).mono ?_; rintro e wn ⟨rfl, ⟨ny, rfl⟩⟩; (try clear Hy)))
    go_ret2
    exact ⟨_, rfl, Kd.R_nil _ _ _ _ _, by repeat (first | exact Below.refl _ _ | apply below_drew1 | apply pw_below_drewN)⟩
  rw [if_neg c5] at h
  obtain rfl : y = false := by simpa using c5
  clear c5
  by_cases c6 : a1 < 1
  · rw [if_pos c6] at h
    have c6a : decide (a1 < 1) = true := decide_eq_true c6
    obtain ⟨rfl, rfl⟩ := Prod.mk.inj (Option.some.inj h)
    go_enter Tryd.func29, Tryd.ntmps29
    go_wp2_with (first | (go_at_call 41; refine (hogsheadref12_zero.calls k a0 false _ Hz.out).mono ?_; rintro e wn ⟨rfl, ⟨nz, rfl⟩⟩; (try clear Hz)) | (go_at_call 41; refine (hogsheadref12_zero.calls k a3 false _ Hy.out).mono ?_; rintro e wn ⟨rfl, ⟨ny, rfl⟩⟩; (try clear Hy)))
    go_ret2
    exact ⟨_, rfl, Kd.R_nil _ _ _ _ _, by repeat (first | exact Below.refl _ _ | apply below_drew1 | apply pw_below_drewN)⟩
  rw [if_neg c6] at h
  have c6a : decide (a1 < 1) = false := decide_eq_false c6
  by_cases c7 : 5 < a1
  · rw [if_pos c7] at h
    have c7a : decide (5 < a1) = true := decide_eq_true c7
    obtain ⟨rfl, rfl⟩ := Prod.mk.inj (Option.some.inj h)
    go_enter Tryd.func29, Tryd.ntmps29
    go_wp2_with (first | (go_at_call 41; refine (hogsheadref12_zero.calls k a0 false _ Hz.out).mono ?_; rintro e wn ⟨rfl, ⟨nz, rfl⟩⟩; (try clear Hz)) | (go_at_call 41; refine (hogsheadref12_zero.calls k a3 false _ Hy.out).mono ?_; rintro e wn ⟨rfl, ⟨ny, rfl⟩⟩; (try clear Hy)))
    go_ret2
    exact ⟨_, rfl, Kd.R_nil _ _ _ _ _, by repeat (first | exact Below.refl _ _ | apply below_drew1 | apply pw_below_drewN)⟩
  rw [if_neg c7] at h
  have c7a : decide (5 < a1) = false := decide_eq_false c7
  by_cases e4 : a1 = 4
  · have e4a : (a1 == 4) = true := beq_iff_eq.mpr e4
    have e1a : (a1 == 1) = false := beq_eq_false_iff_ne.mpr (by omega)
    by_cases e0 : a3.toList = []
    · have e0a : (a3.toList == []) = true := beq_iff_eq.mpr e0
      have e0b : a3.toList.isEmpty = true := by rw [e0]; rfl
      rw [e4a, e0a, if_pos (by decide)] at h
      clear e4
      obtain ⟨rfl, rfl⟩ := Prod.mk.inj (Option.some.inj h)
      go_enter Tryd.func29, Tryd.ntmps29
      go_wp2_with (first | (go_at_call 41; refine (hogsheadref12_zero.calls k a0 false _ Hz.out).mono ?_; rintro e wn ⟨rfl, ⟨nz, rfl⟩⟩; (try clear Hz)) | (go_at_call 41; refine (hogsheadref12_zero.calls k a3 false _ Hy.out).mono ?_; rintro e wn ⟨rfl, ⟨ny, rfl⟩⟩; (try clear Hy)))
      go_ret2
      exact ⟨_, rfl, Kd.R_nil _ _ _ _ _, by repeat (first | exact Below.refl _ _ | apply below_drew1 | apply pw_below_drewN)⟩
    have e0a : (a3.toList == []) = false := beq_eq_false_iff_ne.mpr e0
    have e0b : a3.toList.isEmpty = false := by cases hl : a3.toList <;> simp_all
    rw [e4a, e0a, if_neg (by decide)] at h
    by_cases e2 : a2 = 0
    · have e2a : (a2 == 0) = true := beq_iff_eq.mpr e2
      have e2b : (a2 != 0) = false := bne_eq_false_iff_eq.mpr e2
      rw [if_neg (fun hc => hc.2 e2)] at h
      clear e2 e4
      unfold hogsheadref12_Lay.g at h
      replace h := Option.bind_eq_some_iff.mp h
      obtain ⟨⟨o1, o2⟩, h1, h⟩ := h
      have H1 := Aside0.mk h1
      clear h1
      cases o2 with
      | false =>
        rw [if_neg (by simp)] at h
        obtain ⟨rfl, rfl⟩ := Prod.mk.inj (Option.some.inj h)
        go_enter Tryd.func29, Tryd.ntmps29
        go_wp2_with (first | (go_at_call 41; refine (hogsheadref12_zero.calls k a0 false _ Hz.out).mono ?_; rintro e wn ⟨rfl, ⟨nz, rfl⟩⟩; (try clear Hz)) | (go_at_call 41; refine (hogsheadref12_zero.calls k a3 false _ Hy.out).mono ?_; rintro e wn ⟨rfl, ⟨ny, rfl⟩⟩; (try clear Hy)) | (go_at_call 25; refine (hogsheadref12_Octal.calls k a2 11 o1 false _ H1.out).mono ?_; rintro e wn ⟨rfl, ⟨no, rfl⟩⟩; (try clear H1)))
        go_ret2
        exact ⟨_, rfl, Kd.R_nil _ _ _ _ _, by repeat (first | exact Below.refl _ _ | apply below_drew1 | apply pw_below_drewN)⟩
      | true =>
        rw [if_pos rfl] at h
        replace h := Option.bind_eq_some_iff.mp h
        obtain ⟨md, h3, h⟩ := h
        have H3 := Aside0.mk h3
        replace h := Option.bind_eq_some_iff.mp h
        obtain ⟨lt, h4, h⟩ := h
        have H4 := Aside0.mk h4
        clear h3 h4
        split at h
        case isFalse => cases h
        rename_i hfit
        obtain ⟨f1, f2⟩ := hfit
        replace h := Option.bind_eq_some_iff.mp h
        obtain ⟨⟨q1, q2⟩, h5, h⟩ := h
        have H5 := Aside0.mk h5
        clear h5
        split at h
        case isFalse => cases h
        rename_i f5
        obtain ⟨e1_, rfl⟩ := Prod.mk.inj (Option.some.inj h)
        have E1 := Aside0.mk (show putB (rlaid0 a0 md o1 lt a3) 148 (q1 ++ (⟨#[0, 32]⟩ : ByteArray)) = r1 from e1_)
        clear h e1_
        have F := Aside0.mk (show a0.size ≤ 512 ∧ md.size ≤ 412 ∧ o1.size ≤ 388 ∧ a3.size ≤ 355 ∧ q1.size + 2 ≤ 364 from And.intro (show a0.size ≤ 512 by omega) (And.intro f1 (And.intro f2 (And.intro (show a3.size ≤ 355 by omega) f5))))
        clear f1 f2 f5
        have hmk := make512
        go_enter Tryd.func29, Tryd.ntmps29
        go_wp2_with (first | (go_at_call 41; refine (hogsheadref12_zero.calls k a0 false _ Hz.out).mono ?_; rintro e wn ⟨rfl, ⟨nz, rfl⟩⟩; (try clear Hz)) | (go_at_call 41; refine (hogsheadref12_zero.calls k a3 false _ Hy.out).mono ?_; rintro e wn ⟨rfl, ⟨ny, rfl⟩⟩; (try clear Hy)) | (go_at_call 25; refine (hogsheadref12_Octal.calls k a2 11 o1 true _ H1.out).mono ?_; rintro e wn ⟨rfl, ⟨no, rfl⟩⟩; (try clear H1)))
        refine upon_put (Buf.made1 (w0 := w) (w := w.drewN (nz + ny + no)) (pw_below_drewN (Below.refl _ _) _)) 0 a0 (by have := F.out.1; omega) (by have := F.out.1; omega) ?_
        intro W0 hb _
        have HF := Aside0.mk (show Buf w W0 w.heap.size _ from hb)
        clear hb
        go_wp2_with fail
        go_region_with (first | (go_at_call 42; refine (hogsheadref12_mode.calls a1 md _ H3.out).mono ?_; rintro e wn ⟨rfl, hb⟩; have n0_ := Aside0.mk ((HF.out.step (by repeat (first | exact Below.refl _ _ | apply below_drew | apply pw_below_drewN))).step hb); clear HF hb; have HF := n0_; clear n0_) | (refine upon_put HF.out 100 md (by have := F.out.2.1; omega) (by have := F.out.2.1; omega) ?_; intro W1 hb _; clear HF; have HF := Aside0.mk hb; clear hb))
        go_wp2_with fail
        refine upon_put HF.out 108 (⟨#[48, 48, 48, 48, 48, 48, 48]⟩ : ByteArray) (by show _ + _ ≤ 512; decide) (by show _ ≤ _; decide) ?_
        intro W2 hb _
        clear HF
        have HF := Aside0.mk hb
        clear hb
        go_wp2_with fail
        refine upon_put HF.out 116 (⟨#[48, 48, 48, 48, 48, 48, 48]⟩ : ByteArray) (by show _ + _ ≤ 512; decide) (by show _ ≤ _; decide) ?_
        intro W3 hb _
        clear HF
        have HF := Aside0.mk hb
        clear hb
        go_wp2_with fail
        refine upon_put HF.out 124 o1 (by have := F.out.2.2.1; omega) (by have := F.out.2.2.1; omega) ?_
        intro W4 hb _
        clear HF
        have HF := Aside0.mk hb
        clear hb
        go_wp2_with fail
        refine upon_put HF.out 136 (⟨#[48, 48, 48, 48, 48, 48, 48, 48, 48, 48, 48]⟩ : ByteArray) (by show _ + _ ≤ 512; decide) (by show _ ≤ _; decide) ?_
        intro W5 hb _
        clear HF
        have HF := Aside0.mk hb
        clear hb
        go_wp2_with fail
        refine upon_put HF.out 148 (⟨#[32, 32, 32, 32, 32, 32, 32, 32]⟩ : ByteArray) (by show _ + _ ≤ 512; decide) (by show _ ≤ _; decide) ?_
        intro W6 hb _
        clear HF
        have HF := Aside0.mk hb
        clear hb
        go_wp2_with (go_at_call 43; refine (hogsheadref12_letter.calls a1 lt _ H4.out).mono ?_; rintro e wn ⟨rfl, ⟨nl, rfl⟩⟩; have n0_ := Aside0.mk (HF.out.step (pw_below_drewN (Below.refl _ _) nl)); clear HF; have HF := n0_; clear n0_; have hst := HF.out.cell 156 (by decide); have hfr := HF.out.free 156)
        clear hst hfr
        replace HF := Aside0.mk (HF.out.set 156 lt)
        refine upon_put HF.out 157 a3 (by have := F.out.2.2.2.1; omega) (by have := F.out.2.2.2.1; omega) ?_
        intro W7 hb _
        clear HF
        have HF := Aside0.mk hb
        clear hb
        go_wp2_with fail
        refine upon_put HF.out 257 (⟨#[117, 115, 116, 97, 114, 0, 48, 48]⟩ : ByteArray) (by show _ + _ ≤ 512; decide) (by show _ ≤ _; decide) ?_
        intro W8 hb _
        clear HF
        have HF := Aside0.mk hb
        clear hb
        generalize hxs : putB (putB ((putB (putB (putB (putB (putB (putB (putB zeros512 0 a0) 100 md) 108 ⟨#[48, 48, 48, 48, 48, 48, 48]⟩) 116 ⟨#[48, 48, 48, 48, 48, 48, 48]⟩) 124 o1) 136 ⟨#[48, 48, 48, 48, 48, 48, 48, 48, 48, 48, 48]⟩) 148 ⟨#[32, 32, 32, 32, 32, 32, 32, 32]⟩).set 156 lt) 157 a3) 257 ⟨#[117, 115, 116, 97, 114, 0, 48, 48]⟩ = xs at HF
        have HXs := Aside0.mk (show rlaid0 a0 md o1 lt a3 = xs from hxs)
        replace H5 := Aside0.mk (HXs.out ▸ H5.out : hogsheadref12_Octal.f k (sumB xs) 6 = some (q1, q2))
        clear hxs
        go_wp2_with fail
        go_loopw [13, 14] (fun vs vi wr => ∃ (i : Nat), vi = .int .i64 i ∧ i ≤ 512 ∧ vs = .int .i64 (sumB (xs.take i)) ∧ Hid (Buf w wr w.heap.size xs)) (fun _ vi _ => 512 - (intOf vi).toNat)
        case atStart => exact ⟨0, rfl, by omega, rfl, HF.out⟩
        case round =>
          obtain ⟨i, rfl, hi, rfl, hB⟩ := hrel
          by_cases hlt : i < 512
          · have hcell := hB.out.cell i hlt
            go_wp2
            have hl : i < xs.length := by rw [hB.out.len]; exact hlt
            exact ⟨⟨i + 1, rfl, by omega, by rw [sumB_take xs i hl], hB⟩, by simp only [intOf]; omega⟩
          · obtain rfl : i = 512 := by omega
            have ht : xs.take 512 = xs := List.take_of_length_le (by rw [hB.out.len]; exact Nat.le_refl _)
            rw [ht]
            clear ht
            have HB2 := Aside0.mk hB.out
            have hcat : ¬ (9223372036854775807 < q1.size + 2) := by have := F.out.2.2.2.2; omega
            go_wp2_with (go_at_call 25; refine (hogsheadref12_Octal.calls k (sumB xs) 6 q1 q2 _ H5.out).mono ?_; rintro e wq ⟨rfl, ⟨nq, rfl⟩⟩)
            have HBF := Aside0.mk (HB2.out.step (pw_below_drewN (Below.refl _ _) nq))
            clear HB2 hB hcat
            refine upon_put HBF.out 148 (q1 ++ (⟨#[0, 32]⟩ : ByteArray)) (tail_fits q1 F.out.2.2.2.2) (tail_fits2 q1 F.out.2.2.2.2) ?_
            intro WZ hb _
            have HZ := Aside0.mk hb
            clear hb
            go_wp2_with fail
            go_ret2
            refine ⟨_, rfl, ?_, HZ.out.below⟩
            rw [← E1.out, HXs.out]
            exact HZ.out.R
    have e2a : (a2 == 0) = false := beq_eq_false_iff_ne.mpr e2
    have e2b : (a2 != 0) = true := bne_iff_ne.mpr e2
    rw [if_pos ⟨Or.inr e4, e2⟩] at h
    clear e4
    obtain ⟨rfl, rfl⟩ := Prod.mk.inj (Option.some.inj h)
    go_enter Tryd.func29, Tryd.ntmps29
    go_wp2_with (first | (go_at_call 41; refine (hogsheadref12_zero.calls k a0 false _ Hz.out).mono ?_; rintro e wn ⟨rfl, ⟨nz, rfl⟩⟩; (try clear Hz)) | (go_at_call 41; refine (hogsheadref12_zero.calls k a3 false _ Hy.out).mono ?_; rintro e wn ⟨rfl, ⟨ny, rfl⟩⟩; (try clear Hy)))
    go_ret2
    exact ⟨_, rfl, Kd.R_nil _ _ _ _ _, by repeat (first | exact Below.refl _ _ | apply below_drew1 | apply pw_below_drewN)⟩
  have e4a : (a1 == 4) = false := beq_eq_false_iff_ne.mpr e4
  by_cases e0 : a3.toList = []
  · have e0a : (a3.toList == []) = true := beq_iff_eq.mpr e0
    have e0b : a3.toList.isEmpty = true := by rw [e0]; rfl
    rw [e4a, e0a, if_neg (by decide)] at h
    by_cases e1 : a1 = 1
    · have e1a : (a1 == 1) = true := beq_iff_eq.mpr e1
      by_cases e2 : a2 = 0
      · have e2a : (a2 == 0) = true := beq_iff_eq.mpr e2
        have e2b : (a2 != 0) = false := bne_eq_false_iff_eq.mpr e2
        rw [if_neg (fun hc => hc.2 e2)] at h
        clear e2 e1 e4
        unfold hogsheadref12_Lay.g at h
        replace h := Option.bind_eq_some_iff.mp h
        obtain ⟨⟨o1, o2⟩, h1, h⟩ := h
        have H1 := Aside0.mk h1
        clear h1
        cases o2 with
        | false =>
          rw [if_neg (by simp)] at h
          obtain ⟨rfl, rfl⟩ := Prod.mk.inj (Option.some.inj h)
          go_enter Tryd.func29, Tryd.ntmps29
          go_wp2_with (first | (go_at_call 41; refine (hogsheadref12_zero.calls k a0 false _ Hz.out).mono ?_; rintro e wn ⟨rfl, ⟨nz, rfl⟩⟩; (try clear Hz)) | (go_at_call 41; refine (hogsheadref12_zero.calls k a3 false _ Hy.out).mono ?_; rintro e wn ⟨rfl, ⟨ny, rfl⟩⟩; (try clear Hy)) | (go_at_call 25; refine (hogsheadref12_Octal.calls k a2 11 o1 false _ H1.out).mono ?_; rintro e wn ⟨rfl, ⟨no, rfl⟩⟩; (try clear H1)))
          go_ret2
          exact ⟨_, rfl, Kd.R_nil _ _ _ _ _, by repeat (first | exact Below.refl _ _ | apply below_drew1 | apply pw_below_drewN)⟩
        | true =>
          rw [if_pos rfl] at h
          replace h := Option.bind_eq_some_iff.mp h
          obtain ⟨md, h3, h⟩ := h
          have H3 := Aside0.mk h3
          replace h := Option.bind_eq_some_iff.mp h
          obtain ⟨lt, h4, h⟩ := h
          have H4 := Aside0.mk h4
          clear h3 h4
          split at h
          case isFalse => cases h
          rename_i hfit
          obtain ⟨f1, f2⟩ := hfit
          replace h := Option.bind_eq_some_iff.mp h
          obtain ⟨⟨q1, q2⟩, h5, h⟩ := h
          have H5 := Aside0.mk h5
          clear h5
          split at h
          case isFalse => cases h
          rename_i f5
          obtain ⟨e1_, rfl⟩ := Prod.mk.inj (Option.some.inj h)
          have E1 := Aside0.mk (show putB (rlaid0 a0 md o1 lt a3) 148 (q1 ++ (⟨#[0, 32]⟩ : ByteArray)) = r1 from e1_)
          clear h e1_
          have F := Aside0.mk (show a0.size ≤ 512 ∧ md.size ≤ 412 ∧ o1.size ≤ 388 ∧ a3.size ≤ 355 ∧ q1.size + 2 ≤ 364 from And.intro (show a0.size ≤ 512 by omega) (And.intro f1 (And.intro f2 (And.intro (show a3.size ≤ 355 by omega) f5))))
          clear f1 f2 f5
          have hmk := make512
          go_enter Tryd.func29, Tryd.ntmps29
          go_wp2_with (first | (go_at_call 41; refine (hogsheadref12_zero.calls k a0 false _ Hz.out).mono ?_; rintro e wn ⟨rfl, ⟨nz, rfl⟩⟩; (try clear Hz)) | (go_at_call 41; refine (hogsheadref12_zero.calls k a3 false _ Hy.out).mono ?_; rintro e wn ⟨rfl, ⟨ny, rfl⟩⟩; (try clear Hy)) | (go_at_call 25; refine (hogsheadref12_Octal.calls k a2 11 o1 true _ H1.out).mono ?_; rintro e wn ⟨rfl, ⟨no, rfl⟩⟩; (try clear H1)))
          refine upon_put (Buf.made1 (w0 := w) (w := w.drewN (nz + ny + no)) (pw_below_drewN (Below.refl _ _) _)) 0 a0 (by have := F.out.1; omega) (by have := F.out.1; omega) ?_
          intro W0 hb _
          have HF := Aside0.mk (show Buf w W0 w.heap.size _ from hb)
          clear hb
          go_wp2_with fail
          go_region_with (first | (go_at_call 42; refine (hogsheadref12_mode.calls a1 md _ H3.out).mono ?_; rintro e wn ⟨rfl, hb⟩; have n0_ := Aside0.mk ((HF.out.step (by repeat (first | exact Below.refl _ _ | apply below_drew | apply pw_below_drewN))).step hb); clear HF hb; have HF := n0_; clear n0_) | (refine upon_put HF.out 100 md (by have := F.out.2.1; omega) (by have := F.out.2.1; omega) ?_; intro W1 hb _; clear HF; have HF := Aside0.mk hb; clear hb))
          go_wp2_with fail
          refine upon_put HF.out 108 (⟨#[48, 48, 48, 48, 48, 48, 48]⟩ : ByteArray) (by show _ + _ ≤ 512; decide) (by show _ ≤ _; decide) ?_
          intro W2 hb _
          clear HF
          have HF := Aside0.mk hb
          clear hb
          go_wp2_with fail
          refine upon_put HF.out 116 (⟨#[48, 48, 48, 48, 48, 48, 48]⟩ : ByteArray) (by show _ + _ ≤ 512; decide) (by show _ ≤ _; decide) ?_
          intro W3 hb _
          clear HF
          have HF := Aside0.mk hb
          clear hb
          go_wp2_with fail
          refine upon_put HF.out 124 o1 (by have := F.out.2.2.1; omega) (by have := F.out.2.2.1; omega) ?_
          intro W4 hb _
          clear HF
          have HF := Aside0.mk hb
          clear hb
          go_wp2_with fail
          refine upon_put HF.out 136 (⟨#[48, 48, 48, 48, 48, 48, 48, 48, 48, 48, 48]⟩ : ByteArray) (by show _ + _ ≤ 512; decide) (by show _ ≤ _; decide) ?_
          intro W5 hb _
          clear HF
          have HF := Aside0.mk hb
          clear hb
          go_wp2_with fail
          refine upon_put HF.out 148 (⟨#[32, 32, 32, 32, 32, 32, 32, 32]⟩ : ByteArray) (by show _ + _ ≤ 512; decide) (by show _ ≤ _; decide) ?_
          intro W6 hb _
          clear HF
          have HF := Aside0.mk hb
          clear hb
          go_wp2_with (go_at_call 43; refine (hogsheadref12_letter.calls a1 lt _ H4.out).mono ?_; rintro e wn ⟨rfl, ⟨nl, rfl⟩⟩; have n0_ := Aside0.mk (HF.out.step (pw_below_drewN (Below.refl _ _) nl)); clear HF; have HF := n0_; clear n0_; have hst := HF.out.cell 156 (by decide); have hfr := HF.out.free 156)
          clear hst hfr
          replace HF := Aside0.mk (HF.out.set 156 lt)
          refine upon_put HF.out 157 a3 (by have := F.out.2.2.2.1; omega) (by have := F.out.2.2.2.1; omega) ?_
          intro W7 hb _
          clear HF
          have HF := Aside0.mk hb
          clear hb
          go_wp2_with fail
          refine upon_put HF.out 257 (⟨#[117, 115, 116, 97, 114, 0, 48, 48]⟩ : ByteArray) (by show _ + _ ≤ 512; decide) (by show _ ≤ _; decide) ?_
          intro W8 hb _
          clear HF
          have HF := Aside0.mk hb
          clear hb
          generalize hxs : putB (putB ((putB (putB (putB (putB (putB (putB (putB zeros512 0 a0) 100 md) 108 ⟨#[48, 48, 48, 48, 48, 48, 48]⟩) 116 ⟨#[48, 48, 48, 48, 48, 48, 48]⟩) 124 o1) 136 ⟨#[48, 48, 48, 48, 48, 48, 48, 48, 48, 48, 48]⟩) 148 ⟨#[32, 32, 32, 32, 32, 32, 32, 32]⟩).set 156 lt) 157 a3) 257 ⟨#[117, 115, 116, 97, 114, 0, 48, 48]⟩ = xs at HF
          have HXs := Aside0.mk (show rlaid0 a0 md o1 lt a3 = xs from hxs)
          replace H5 := Aside0.mk (HXs.out ▸ H5.out : hogsheadref12_Octal.f k (sumB xs) 6 = some (q1, q2))
          clear hxs
          go_wp2_with fail
          go_loopw [13, 14] (fun vs vi wr => ∃ (i : Nat), vi = .int .i64 i ∧ i ≤ 512 ∧ vs = .int .i64 (sumB (xs.take i)) ∧ Hid (Buf w wr w.heap.size xs)) (fun _ vi _ => 512 - (intOf vi).toNat)
          case atStart => exact ⟨0, rfl, by omega, rfl, HF.out⟩
          case round =>
            obtain ⟨i, rfl, hi, rfl, hB⟩ := hrel
            by_cases hlt : i < 512
            · have hcell := hB.out.cell i hlt
              go_wp2
              have hl : i < xs.length := by rw [hB.out.len]; exact hlt
              exact ⟨⟨i + 1, rfl, by omega, by rw [sumB_take xs i hl], hB⟩, by simp only [intOf]; omega⟩
            · obtain rfl : i = 512 := by omega
              have ht : xs.take 512 = xs := List.take_of_length_le (by rw [hB.out.len]; exact Nat.le_refl _)
              rw [ht]
              clear ht
              have HB2 := Aside0.mk hB.out
              have hcat : ¬ (9223372036854775807 < q1.size + 2) := by have := F.out.2.2.2.2; omega
              go_wp2_with (go_at_call 25; refine (hogsheadref12_Octal.calls k (sumB xs) 6 q1 q2 _ H5.out).mono ?_; rintro e wq ⟨rfl, ⟨nq, rfl⟩⟩)
              have HBF := Aside0.mk (HB2.out.step (pw_below_drewN (Below.refl _ _) nq))
              clear HB2 hB hcat
              refine upon_put HBF.out 148 (q1 ++ (⟨#[0, 32]⟩ : ByteArray)) (tail_fits q1 F.out.2.2.2.2) (tail_fits2 q1 F.out.2.2.2.2) ?_
              intro WZ hb _
              have HZ := Aside0.mk hb
              clear hb
              go_wp2_with fail
              go_ret2
              refine ⟨_, rfl, ?_, HZ.out.below⟩
              rw [← E1.out, HXs.out]
              exact HZ.out.R
      have e2a : (a2 == 0) = false := beq_eq_false_iff_ne.mpr e2
      have e2b : (a2 != 0) = true := bne_iff_ne.mpr e2
      rw [if_pos ⟨Or.inl e1, e2⟩] at h
      clear e1 e4
      obtain ⟨rfl, rfl⟩ := Prod.mk.inj (Option.some.inj h)
      go_enter Tryd.func29, Tryd.ntmps29
      go_wp2_with (first | (go_at_call 41; refine (hogsheadref12_zero.calls k a0 false _ Hz.out).mono ?_; rintro e wn ⟨rfl, ⟨nz, rfl⟩⟩; (try clear Hz)) | (go_at_call 41; refine (hogsheadref12_zero.calls k a3 false _ Hy.out).mono ?_; rintro e wn ⟨rfl, ⟨ny, rfl⟩⟩; (try clear Hy)))
      go_ret2
      exact ⟨_, rfl, Kd.R_nil _ _ _ _ _, by repeat (first | exact Below.refl _ _ | apply below_drew1 | apply pw_below_drewN)⟩
    have e1a : (a1 == 1) = false := beq_eq_false_iff_ne.mpr e1
    rw [if_neg (fun hc => by rcases hc.1 with hc | hc <;> omega)] at h
    unfold hogsheadref12_Lay.g at h
    replace h := Option.bind_eq_some_iff.mp h
    obtain ⟨⟨o1, o2⟩, h1, h⟩ := h
    have H1 := Aside0.mk h1
    clear h1
    cases o2 with
    | false =>
      rw [if_neg (by simp)] at h
      obtain ⟨rfl, rfl⟩ := Prod.mk.inj (Option.some.inj h)
      go_enter Tryd.func29, Tryd.ntmps29
      go_wp2_with (first | (go_at_call 41; refine (hogsheadref12_zero.calls k a0 false _ Hz.out).mono ?_; rintro e wn ⟨rfl, ⟨nz, rfl⟩⟩; (try clear Hz)) | (go_at_call 41; refine (hogsheadref12_zero.calls k a3 false _ Hy.out).mono ?_; rintro e wn ⟨rfl, ⟨ny, rfl⟩⟩; (try clear Hy)) | (go_at_call 25; refine (hogsheadref12_Octal.calls k a2 11 o1 false _ H1.out).mono ?_; rintro e wn ⟨rfl, ⟨no, rfl⟩⟩; (try clear H1)))
      go_ret2
      exact ⟨_, rfl, Kd.R_nil _ _ _ _ _, by repeat (first | exact Below.refl _ _ | apply below_drew1 | apply pw_below_drewN)⟩
    | true =>
      rw [if_pos rfl] at h
      replace h := Option.bind_eq_some_iff.mp h
      obtain ⟨md, h3, h⟩ := h
      have H3 := Aside0.mk h3
      replace h := Option.bind_eq_some_iff.mp h
      obtain ⟨lt, h4, h⟩ := h
      have H4 := Aside0.mk h4
      clear h3 h4
      split at h
      case isFalse => cases h
      rename_i hfit
      obtain ⟨f1, f2⟩ := hfit
      replace h := Option.bind_eq_some_iff.mp h
      obtain ⟨⟨q1, q2⟩, h5, h⟩ := h
      have H5 := Aside0.mk h5
      clear h5
      split at h
      case isFalse => cases h
      rename_i f5
      obtain ⟨e1_, rfl⟩ := Prod.mk.inj (Option.some.inj h)
      have E1 := Aside0.mk (show putB (rlaid0 a0 md o1 lt a3) 148 (q1 ++ (⟨#[0, 32]⟩ : ByteArray)) = r1 from e1_)
      clear h e1_
      have F := Aside0.mk (show a0.size ≤ 512 ∧ md.size ≤ 412 ∧ o1.size ≤ 388 ∧ a3.size ≤ 355 ∧ q1.size + 2 ≤ 364 from And.intro (show a0.size ≤ 512 by omega) (And.intro f1 (And.intro f2 (And.intro (show a3.size ≤ 355 by omega) f5))))
      clear f1 f2 f5
      have hmk := make512
      go_enter Tryd.func29, Tryd.ntmps29
      go_wp2_with (first | (go_at_call 41; refine (hogsheadref12_zero.calls k a0 false _ Hz.out).mono ?_; rintro e wn ⟨rfl, ⟨nz, rfl⟩⟩; (try clear Hz)) | (go_at_call 41; refine (hogsheadref12_zero.calls k a3 false _ Hy.out).mono ?_; rintro e wn ⟨rfl, ⟨ny, rfl⟩⟩; (try clear Hy)) | (go_at_call 25; refine (hogsheadref12_Octal.calls k a2 11 o1 true _ H1.out).mono ?_; rintro e wn ⟨rfl, ⟨no, rfl⟩⟩; (try clear H1)))
      refine upon_put (Buf.made1 (w0 := w) (w := w.drewN (nz + ny + no)) (pw_below_drewN (Below.refl _ _) _)) 0 a0 (by have := F.out.1; omega) (by have := F.out.1; omega) ?_
      intro W0 hb _
      have HF := Aside0.mk (show Buf w W0 w.heap.size _ from hb)
      clear hb
      go_wp2_with fail
      go_region_with (first | (go_at_call 42; refine (hogsheadref12_mode.calls a1 md _ H3.out).mono ?_; rintro e wn ⟨rfl, hb⟩; have n0_ := Aside0.mk ((HF.out.step (by repeat (first | exact Below.refl _ _ | apply below_drew | apply pw_below_drewN))).step hb); clear HF hb; have HF := n0_; clear n0_) | (refine upon_put HF.out 100 md (by have := F.out.2.1; omega) (by have := F.out.2.1; omega) ?_; intro W1 hb _; clear HF; have HF := Aside0.mk hb; clear hb))
      go_wp2_with fail
      refine upon_put HF.out 108 (⟨#[48, 48, 48, 48, 48, 48, 48]⟩ : ByteArray) (by show _ + _ ≤ 512; decide) (by show _ ≤ _; decide) ?_
      intro W2 hb _
      clear HF
      have HF := Aside0.mk hb
      clear hb
      go_wp2_with fail
      refine upon_put HF.out 116 (⟨#[48, 48, 48, 48, 48, 48, 48]⟩ : ByteArray) (by show _ + _ ≤ 512; decide) (by show _ ≤ _; decide) ?_
      intro W3 hb _
      clear HF
      have HF := Aside0.mk hb
      clear hb
      go_wp2_with fail
      refine upon_put HF.out 124 o1 (by have := F.out.2.2.1; omega) (by have := F.out.2.2.1; omega) ?_
      intro W4 hb _
      clear HF
      have HF := Aside0.mk hb
      clear hb
      go_wp2_with fail
      refine upon_put HF.out 136 (⟨#[48, 48, 48, 48, 48, 48, 48, 48, 48, 48, 48]⟩ : ByteArray) (by show _ + _ ≤ 512; decide) (by show _ ≤ _; decide) ?_
      intro W5 hb _
      clear HF
      have HF := Aside0.mk hb
      clear hb
      go_wp2_with fail
      refine upon_put HF.out 148 (⟨#[32, 32, 32, 32, 32, 32, 32, 32]⟩ : ByteArray) (by show _ + _ ≤ 512; decide) (by show _ ≤ _; decide) ?_
      intro W6 hb _
      clear HF
      have HF := Aside0.mk hb
      clear hb
      go_wp2_with (go_at_call 43; refine (hogsheadref12_letter.calls a1 lt _ H4.out).mono ?_; rintro e wn ⟨rfl, ⟨nl, rfl⟩⟩; have n0_ := Aside0.mk (HF.out.step (pw_below_drewN (Below.refl _ _) nl)); clear HF; have HF := n0_; clear n0_; have hst := HF.out.cell 156 (by decide); have hfr := HF.out.free 156)
      clear hst hfr
      replace HF := Aside0.mk (HF.out.set 156 lt)
      refine upon_put HF.out 157 a3 (by have := F.out.2.2.2.1; omega) (by have := F.out.2.2.2.1; omega) ?_
      intro W7 hb _
      clear HF
      have HF := Aside0.mk hb
      clear hb
      go_wp2_with fail
      refine upon_put HF.out 257 (⟨#[117, 115, 116, 97, 114, 0, 48, 48]⟩ : ByteArray) (by show _ + _ ≤ 512; decide) (by show _ ≤ _; decide) ?_
      intro W8 hb _
      clear HF
      have HF := Aside0.mk hb
      clear hb
      generalize hxs : putB (putB ((putB (putB (putB (putB (putB (putB (putB zeros512 0 a0) 100 md) 108 ⟨#[48, 48, 48, 48, 48, 48, 48]⟩) 116 ⟨#[48, 48, 48, 48, 48, 48, 48]⟩) 124 o1) 136 ⟨#[48, 48, 48, 48, 48, 48, 48, 48, 48, 48, 48]⟩) 148 ⟨#[32, 32, 32, 32, 32, 32, 32, 32]⟩).set 156 lt) 157 a3) 257 ⟨#[117, 115, 116, 97, 114, 0, 48, 48]⟩ = xs at HF
      have HXs := Aside0.mk (show rlaid0 a0 md o1 lt a3 = xs from hxs)
      replace H5 := Aside0.mk (HXs.out ▸ H5.out : hogsheadref12_Octal.f k (sumB xs) 6 = some (q1, q2))
      clear hxs
      go_wp2_with fail
      go_loopw [13, 14] (fun vs vi wr => ∃ (i : Nat), vi = .int .i64 i ∧ i ≤ 512 ∧ vs = .int .i64 (sumB (xs.take i)) ∧ Hid (Buf w wr w.heap.size xs)) (fun _ vi _ => 512 - (intOf vi).toNat)
      case atStart => exact ⟨0, rfl, by omega, rfl, HF.out⟩
      case round =>
        obtain ⟨i, rfl, hi, rfl, hB⟩ := hrel
        by_cases hlt : i < 512
        · have hcell := hB.out.cell i hlt
          go_wp2
          have hl : i < xs.length := by rw [hB.out.len]; exact hlt
          exact ⟨⟨i + 1, rfl, by omega, by rw [sumB_take xs i hl], hB⟩, by simp only [intOf]; omega⟩
        · obtain rfl : i = 512 := by omega
          have ht : xs.take 512 = xs := List.take_of_length_le (by rw [hB.out.len]; exact Nat.le_refl _)
          rw [ht]
          clear ht
          have HB2 := Aside0.mk hB.out
          have hcat : ¬ (9223372036854775807 < q1.size + 2) := by have := F.out.2.2.2.2; omega
          go_wp2_with (go_at_call 25; refine (hogsheadref12_Octal.calls k (sumB xs) 6 q1 q2 _ H5.out).mono ?_; rintro e wq ⟨rfl, ⟨nq, rfl⟩⟩)
          have HBF := Aside0.mk (HB2.out.step (pw_below_drewN (Below.refl _ _) nq))
          clear HB2 hB hcat
          refine upon_put HBF.out 148 (q1 ++ (⟨#[0, 32]⟩ : ByteArray)) (tail_fits q1 F.out.2.2.2.2) (tail_fits2 q1 F.out.2.2.2.2) ?_
          intro WZ hb _
          have HZ := Aside0.mk hb
          clear hb
          go_wp2_with fail
          go_ret2
          refine ⟨_, rfl, ?_, HZ.out.below⟩
          rw [← E1.out, HXs.out]
          exact HZ.out.R
  have e0a : (a3.toList == []) = false := beq_eq_false_iff_ne.mpr e0
  have e0b : a3.toList.isEmpty = false := by cases hl : a3.toList <;> simp_all
  rw [e4a, e0a, if_pos (by decide)] at h
  obtain ⟨rfl, rfl⟩ := Prod.mk.inj (Option.some.inj h)
  go_enter Tryd.func29, Tryd.ntmps29
  go_wp2_with (first | (go_at_call 41; refine (hogsheadref12_zero.calls k a0 false _ Hz.out).mono ?_; rintro e wn ⟨rfl, ⟨nz, rfl⟩⟩; (try clear Hz)) | (go_at_call 41; refine (hogsheadref12_zero.calls k a3 false _ Hy.out).mono ?_; rintro e wn ⟨rfl, ⟨ny, rfl⟩⟩; (try clear Hy)))
  go_ret2
  exact ⟨_, rfl, Kd.R_nil _ _ _ _ _, by repeat (first | exact Below.refl _ _ | apply below_drew1 | apply pw_below_drewN)⟩
end Go.Proofs.YtidlgdpjcognpaaDoor.X
