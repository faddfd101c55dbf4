/- head.Lay, walked by hand: its closure fills a buffer. -/
import Derived.Test.YtidlgdpjcognpaaDoorXB
import Derived.Test.YtidlgdpjcognpaaDoorPf24
import Derived.Test.YtidlgdpjcognpaaDoorPf37
import Derived.Test.YtidlgdpjcognpaaDoorPf39
import Derived.Test.YtidlgdpjcognpaaDoorPf40
namespace Go.Proofs.YtidlgdpjcognpaaDoor.X
open Go.RowKit Go.Proofs.YtidlgdpjcognpaaDoorW.PrintWords Go.Proofs.YtidlgdpjcognpaaDoor.P
set_option linter.unusedVariables false
set_option linter.unusedSimpArgs false

def laid0 (name md dg sg link : ByteArray) : List Int :=
  putB (putB (putB (putB (putB (putB (putB (putB (putB (putB zeros512 0 name) 100 md) 108 ⟨#[48, 48, 48, 48, 48, 48, 48]⟩) 116 ⟨#[48, 48, 48, 48, 48, 48, 48]⟩) 124 dg) 136 ⟨#[48, 48, 48, 48, 48, 48, 48, 48, 48, 48, 48]⟩) 148 ⟨#[32, 32, 32, 32, 32, 32, 32, 32]⟩) 156 sg) 157 link) 257 ⟨#[117, 115, 116, 97, 114, 0, 48, 48]⟩
def head_Lay.f (k : Nat) (a0 : ByteArray) (a1 a2 : Int) (a3 : ByteArray) : Option (List Int × Bool) :=
  (head_Octal.f k a2 11).bind fun o => if o.2 = true then (head_may.f a0 a1 a2 a3).bind fun m => if m = true then
    (head_mode.f k a1).bind fun md => (head_sign.f a1).bind fun sg =>
      if a0.size ≤ 512 ∧ md.size ≤ 412 ∧ o.1.size ≤ 388 ∧ sg.size ≤ 356 ∧ a3.size ≤ 355 then
        (head_Octal.f k (sumB (laid0 a0 md o.1 sg a3)) 6).bind fun q => if q.1.size + 2 ≤ 364 then some (putB (laid0 a0 md o.1 sg a3) 148 (q.1 ++ ⟨#[0, 32]⟩), true) else none
      else none
    else some ([], false)
  else some ([], false)
theorem head_Lay.mono : ∀ a0 a1 a2 a3 k, LeO (head_Lay.f k a0 a1 a2 a3) (head_Lay.f (k + 1) a0 a1 a2 a3) := by
  intro a0 a1 a2 a3 k
  unfold head_Lay.f
  refine LeO.bind (head_Octal.mono _ _ _) fun o => LeO.ite (LeO.bind (LeO.refl _) fun m => LeO.ite (LeO.bind (head_mode.mono _ _) fun md => LeO.bind (LeO.refl _) fun sg => LeO.ite (LeO.bind (head_Octal.mono _ _ _) fun q => LeO.refl _) (LeO.refl _)) (LeO.refl _)) (LeO.refl _)

set_option maxHeartbeats 6400000 in
set_option maxRecDepth 100000 in
theorem head_Lay.calls (k : Nat) (a0 : ByteArray) (a1 a2 : Int) (a3 : ByteArray) (r1 : List Int) (r2 : Bool) (w : World) (hT : Aside0 (Tabs w)) (h : head_Lay.f k a0 a1 a2 a3 = some (r1, r2)) :
    Calls Tryd.prog 28 #[.string a0, .int .i64 a1, .int .i64 a2, .string a3] w fun e w' => ∃ v0_, e = .returned (.tuple #[v0_, .bool r2]) ∧ (Kd.int .u8).R 5 w' w.heap.size (fun _ => True) v0_ r1 ∧ Below w.heap.size w w' := by
  unfold head_Lay.f at h
  replace h := Option.bind_eq_some_iff.mp h
  obtain ⟨⟨o1, o2⟩, h1, h⟩ := h
  have H1 := Aside0.mk h1
  clear h1
  have HB := Aside0.mk (Below.refl w.heap.size w)
  cases o2 with
  | false =>
    rw [if_neg (by simp)] at h
    obtain ⟨rfl, rfl⟩ := Prod.mk.inj (Option.some.inj h)
    go_enter Tryd.func28, Tryd.ntmps28
    go_wp2_with (go_at_call 24; refine (head_Octal.calls k a2 11 o1 false _ hT H1.out).mono ?_; rintro e w1 ⟨rfl, hb⟩; have HB1 := Aside0.mk hb; clear hb)
    go_ret2
    exact ⟨_, rfl, Kd.R_nil _ _ _ _ _, HB1.out⟩
  | true =>
    rw [if_pos rfl] at h
    replace h := Option.bind_eq_some_iff.mp h
    obtain ⟨m, h2, h⟩ := h
    have H2 := Aside0.mk h2
    clear h2
    cases m with
    | false =>
      rw [if_neg (by simp)] at h
      obtain ⟨rfl, rfl⟩ := Prod.mk.inj (Option.some.inj h)
      go_enter Tryd.func28, Tryd.ntmps28
      go_wp2_with (first | (go_at_call 24; refine (head_Octal.calls k a2 11 o1 true _ hT H1.out).mono ?_; rintro e w1 ⟨rfl, hb⟩; have HB1 := Aside0.mk hb; clear hb) | (go_at_call 37; refine (head_may.calls a0 a1 a2 a3 false _ H2.out).mono ?_; rintro e w2 ⟨rfl, ⟨n2, rfl⟩⟩))
      go_ret2
      exact ⟨_, rfl, Kd.R_nil _ _ _ _ _, pw_below_drewN HB1.out n2⟩
    | true =>
      rw [if_pos rfl] at h
      replace h := Option.bind_eq_some_iff.mp h
      obtain ⟨md, h3, h⟩ := h
      have H3 := Aside0.mk h3
      replace h := Option.bind_eq_some_iff.mp h
      obtain ⟨sg, h4, h⟩ := h
      have H4 := Aside0.mk h4
      clear h3 h4
      split at h
      case isFalse => cases h
      rename_i hfit
      obtain ⟨f0, f1, f2, f3, f4⟩ := hfit
      replace h := Option.bind_eq_some_iff.mp h
      obtain ⟨⟨q1, q2⟩, h5, h⟩ := h
      have H5 := Aside0.mk h5
      clear h5
      split at h
      case isFalse => cases h
      rename_i f5
      obtain ⟨rfl, rfl⟩ := Prod.mk.inj (Option.some.inj h)
      clear h
      have F := Aside0.mk (And.intro f0 (And.intro f1 (And.intro f2 (And.intro f3 (And.intro f4 f5)))))
      clear f0 f1 f2 f3 f4 f5
      have hmk := make512
      go_enter Tryd.func28, Tryd.ntmps28
      go_wp2_with (first | (go_at_call 24; refine (head_Octal.calls k a2 11 o1 true _ hT H1.out).mono ?_; rintro e w1 ⟨rfl, hb⟩; have HB1 := Aside0.mk hb; clear hb) | (go_at_call 37; refine (head_may.calls a0 a1 a2 a3 true _ H2.out).mono ?_; rintro e w2 ⟨rfl, ⟨n2, rfl⟩⟩))
      have HF := Aside0.mk (Buf.made (w0 := w) (pw_below_drewN HB1.out n2) (.slice (some ⟨w1.heap.size, 0, none⟩) 512 512))
      have HX := Aside0.mk (show (((w1.drewN n2).alloc (.cells (nums .u8 zeros512).toArray 5)).alloc (.cells #[.slice (some ⟨w1.heap.size, 0, none⟩) 512 512] 22)).heap[w1.heap.size + 1]? = some (.cells #[.slice (some ⟨w1.heap.size, 0, none⟩) 512 512] 22 (0, 0)) from by show (((w1.drewN n2).heap.push _).push _)[_]? = _; rw [Array.getElem?_push, if_pos (by rw [Array.size_push, World.heap_drewN])])
      have eg : (w1.drewN n2).heap.size = w1.heap.size := by rw [World.heap_drewN]
      rw [eg] at HF
      clear eg
      have HN := Aside0.mk (show w1.heap.size + 1 ≠ w1.heap.size by omega)
      have HL := Aside0.mk (Nat.le_refl w1.heap.size)
      generalize ((w1.drewN n2).alloc (.cells (nums .u8 zeros512).toArray 5)).alloc (.cells #[.slice (some ⟨w1.heap.size, 0, none⟩) 512 512] 22) = W0 at *
      generalize w1.heap.size + 1 = bx at *
      generalize w1.heap.size = g at *
      refine (put_calls w _ g bx (zeros512) _ 0 rfl a0 HF.out HX.out HN.out (by have := F.out.1; omega) (by decide)).mono ?_
      rintro e W1 ⟨rfl, hb, _, hx⟩
      clear HF HX
      have HF := Aside0.mk hb
      have HX := Aside0.mk hx
      clear hb hx
      go_wp2_with (first | (go_at_call 39; refine (head_mode.calls k a1 md _ H3.out).mono ?_; rintro e wn ⟨rfl, ⟨nd, rfl⟩⟩))
      replace HF := Aside0.mk (HF.out.step (pw_below_drewN (Below.refl _ _) nd))
      replace HX := Aside0.mk (show (W1.drewN nd).heap[bx]? = some (.cells #[.slice (some ⟨g, 0, none⟩) 512 512] 22 (0, 0)) from HX.out)
      refine (put_calls w _ g bx (putB (zeros512) 0 a0) _ 100 rfl md HF.out HX.out HN.out (by have := F.out.2.1; omega) (by decide)).mono ?_
      rintro e W2 ⟨rfl, hb, _, hx⟩
      clear HF HX
      have HF := Aside0.mk hb
      have HX := Aside0.mk hx
      clear hb hx
      go_wp2_with fail
      refine (put_calls w _ g bx (putB (putB (zeros512) 0 a0) 100 md) _ 108 rfl ⟨#[48, 48, 48, 48, 48, 48, 48]⟩ HF.out HX.out HN.out (by show _ + _ ≤ 512; decide) (by decide)).mono ?_
      rintro e W3 ⟨rfl, hb, _, hx⟩
      clear HF HX
      have HF := Aside0.mk hb
      have HX := Aside0.mk hx
      clear hb hx
      go_wp2_with fail
      refine (put_calls w _ g bx (putB (putB (putB (zeros512) 0 a0) 100 md) 108 ⟨#[48, 48, 48, 48, 48, 48, 48]⟩) _ 116 rfl ⟨#[48, 48, 48, 48, 48, 48, 48]⟩ HF.out HX.out HN.out (by show _ + _ ≤ 512; decide) (by decide)).mono ?_
      rintro e W4 ⟨rfl, hb, _, hx⟩
      clear HF HX
      have HF := Aside0.mk hb
      have HX := Aside0.mk hx
      clear hb hx
      go_wp2_with fail
      refine (put_calls w _ g bx (putB (putB (putB (putB (zeros512) 0 a0) 100 md) 108 ⟨#[48, 48, 48, 48, 48, 48, 48]⟩) 116 ⟨#[48, 48, 48, 48, 48, 48, 48]⟩) _ 124 rfl o1 HF.out HX.out HN.out (by have := F.out.2.2.1; omega) (by decide)).mono ?_
      rintro e W5 ⟨rfl, hb, _, hx⟩
      clear HF HX
      have HF := Aside0.mk hb
      have HX := Aside0.mk hx
      clear hb hx
      go_wp2_with fail
      refine (put_calls w _ g bx (putB (putB (putB (putB (putB (zeros512) 0 a0) 100 md) 108 ⟨#[48, 48, 48, 48, 48, 48, 48]⟩) 116 ⟨#[48, 48, 48, 48, 48, 48, 48]⟩) 124 o1) _ 136 rfl ⟨#[48, 48, 48, 48, 48, 48, 48, 48, 48, 48, 48]⟩ HF.out HX.out HN.out (by show _ + _ ≤ 512; decide) (by decide)).mono ?_
      rintro e W6 ⟨rfl, hb, _, hx⟩
      clear HF HX
      have HF := Aside0.mk hb
      have HX := Aside0.mk hx
      clear hb hx
      go_wp2_with fail
      refine (put_calls w _ g bx (putB (putB (putB (putB (putB (putB (zeros512) 0 a0) 100 md) 108 ⟨#[48, 48, 48, 48, 48, 48, 48]⟩) 116 ⟨#[48, 48, 48, 48, 48, 48, 48]⟩) 124 o1) 136 ⟨#[48, 48, 48, 48, 48, 48, 48, 48, 48, 48, 48]⟩) _ 148 rfl ⟨#[32, 32, 32, 32, 32, 32, 32, 32]⟩ HF.out HX.out HN.out (by show _ + _ ≤ 512; decide) (by decide)).mono ?_
      rintro e W7 ⟨rfl, hb, _, hx⟩
      clear HF HX
      have HF := Aside0.mk hb
      have HX := Aside0.mk hx
      clear hb hx
      go_wp2_with (first | (go_at_call 40; refine (head_sign.calls a1 sg _ H4.out).mono ?_; rintro e wn ⟨rfl, ⟨nd, rfl⟩⟩))
      replace HF := Aside0.mk (HF.out.step (pw_below_drewN (Below.refl _ _) nd))
      replace HX := Aside0.mk (show (W7.drewN nd).heap[bx]? = some (.cells #[.slice (some ⟨g, 0, none⟩) 512 512] 22 (0, 0)) from HX.out)
      refine (put_calls w _ g bx (putB (putB (putB (putB (putB (putB (putB (zeros512) 0 a0) 100 md) 108 ⟨#[48, 48, 48, 48, 48, 48, 48]⟩) 116 ⟨#[48, 48, 48, 48, 48, 48, 48]⟩) 124 o1) 136 ⟨#[48, 48, 48, 48, 48, 48, 48, 48, 48, 48, 48]⟩) 148 ⟨#[32, 32, 32, 32, 32, 32, 32, 32]⟩) _ 156 rfl sg HF.out HX.out HN.out (by have := F.out.2.2.2.1; omega) (by decide)).mono ?_
      rintro e W8 ⟨rfl, hb, _, hx⟩
      clear HF HX
      have HF := Aside0.mk hb
      have HX := Aside0.mk hx
      clear hb hx
      go_wp2_with fail
      refine (put_calls w _ g bx (putB (putB (putB (putB (putB (putB (putB (putB (zeros512) 0 a0) 100 md) 108 ⟨#[48, 48, 48, 48, 48, 48, 48]⟩) 116 ⟨#[48, 48, 48, 48, 48, 48, 48]⟩) 124 o1) 136 ⟨#[48, 48, 48, 48, 48, 48, 48, 48, 48, 48, 48]⟩) 148 ⟨#[32, 32, 32, 32, 32, 32, 32, 32]⟩) 156 sg) _ 157 rfl a3 HF.out HX.out HN.out (by have := F.out.2.2.2.2.1; omega) (by decide)).mono ?_
      rintro e W9 ⟨rfl, hb, _, hx⟩
      clear HF HX
      have HF := Aside0.mk hb
      have HX := Aside0.mk hx
      clear hb hx
      go_wp2_with fail
      refine (put_calls w _ g bx (putB (putB (putB (putB (putB (putB (putB (putB (putB (zeros512) 0 a0) 100 md) 108 ⟨#[48, 48, 48, 48, 48, 48, 48]⟩) 116 ⟨#[48, 48, 48, 48, 48, 48, 48]⟩) 124 o1) 136 ⟨#[48, 48, 48, 48, 48, 48, 48, 48, 48, 48, 48]⟩) 148 ⟨#[32, 32, 32, 32, 32, 32, 32, 32]⟩) 156 sg) 157 a3) _ 257 rfl ⟨#[117, 115, 116, 97, 114, 0, 48, 48]⟩ HF.out HX.out HN.out (by show _ + _ ≤ 512; decide) (by decide)).mono ?_
      rintro e W10 ⟨rfl, hb, _, hx⟩
      clear HF HX
      have HF := Aside0.mk hb
      have HX := Aside0.mk hx
      clear hb hx
      have hcb := cell_of_one HX.out
      generalize hxs : putB (putB (putB (putB (putB (putB (putB (putB (putB (putB zeros512 0 a0) 100 md) 108 ⟨#[48, 48, 48, 48, 48, 48, 48]⟩) 116 ⟨#[48, 48, 48, 48, 48, 48, 48]⟩) 124 o1) 136 ⟨#[48, 48, 48, 48, 48, 48, 48, 48, 48, 48, 48]⟩) 148 ⟨#[32, 32, 32, 32, 32, 32, 32, 32]⟩) 156 sg) 157 a3) 257 ⟨#[117, 115, 116, 97, 114, 0, 48, 48]⟩ = xs at HF
      have HXs := Aside0.mk (show laid0 a0 md o1 sg a3 = xs from hxs)
      replace H5 := Aside0.mk (HXs.out ▸ H5.out : head_Octal.f k (sumB xs) 6 = some (q1, q2))
      clear hxs
      go_wp2_with fail
      have hcl := Aside0.mk (fun i hi => HF.out.cell i hi)
      go_loopw [14, 65] (fun vs vi wr => ∃ (i : Nat), vi = .int .i64 i ∧ i ≤ 512 ∧ vs = .int .i64 (sumB (xs.take i)) ∧ Hid (Buf w wr g xs) ∧ Hid (wr.heap[bx]? = some (.cells #[.slice (some ⟨g, 0, none⟩) 512 512] 22 (0, 0)))) (fun _ vi _ => 512 - (intOf vi).toNat)
      case atStart => exact ⟨0, rfl, by omega, rfl, HF.out, HX.out⟩
      case round =>
        obtain ⟨i, rfl, hi, rfl, hB, hX⟩ := hrel
        by_cases hlt : i < 512
        · have hcell := hB.out.cell i hlt
          go_wp2
          have hl : i < xs.length := by rw [hB.out.len]; exact hlt
          exact ⟨⟨i + 1, rfl, by omega, by rw [sumB_take xs i hl], hB, hX⟩, by simp only [intOf]; omega⟩
        · obtain rfl : i = 512 := by omega
          have hcb := cell_of_one hX.out
          have ht : xs.take 512 = xs := List.take_of_length_le (by rw [hB.out.len]; exact Nat.le_refl _)
          rw [ht]
          clear ht
          have HB2 := Aside0.mk hB.out
          have hcat : ¬ (9223372036854775807 < q1.size + 2) := by have := F.out.2.2.2.2.2; omega
          go_wp2_with (go_at_call 24; refine (head_Octal.calls k (sumB xs) 6 q1 q2 _ ⟨Tabs.below hT.out HB2.out.below⟩ H5.out).mono ?_; rintro e wq ⟨rfl, hb⟩; have HBq := Aside0.mk hb; clear hb)
          have HBF := Aside0.mk (HB2.out.step HBq.out)
          have HXq := Aside0.mk ((HBq.out.block bx (Array.getElem?_eq_some_iff.1 hX.out).1).trans hX.out)
          clear hcb HB2 hX hB HBq hcat
          refine (put_tail w wq g bx xs q1 HBF.out HXq.out HN.out F.out.2.2.2.2.2).mono ?_
          rintro e wz ⟨rfl, hb, hx⟩
          clear HBF HXq
          have hcz := cell_of_one hx
          have HZ := Aside0.mk hb
          clear hb hx
          go_wp2_with fail
          go_ret2
          refine ⟨_, rfl, ?_, HZ.out.below⟩
          rw [HXs.out]
          exact HZ.out.R
end Go.Proofs.YtidlgdpjcognpaaDoor.X
