/- SumTells, walked: every input, the program's tables in place: true; what was there is as it was. -/
import Derived.Test.YtidlgdpjcognpaaDoorXPS
import Derived.Deep.RegionWith
import Derived.Outline
namespace Go.Proofs.YtidlgdpjcognpaaDoor.X
open Go.RowKit Go.Proofs.YtidlgdpjcognpaaDoorW.PrintWords Go.Proofs.YtidlgdpjcognpaaDoor.P
set_option linter.unusedVariables false
set_option linter.unusedSimpArgs false

set_option maxHeartbeats 4000000 in
set_option maxRecDepth 100000 in
theorem sumTells_calls (A0 : Option Addr) (c0 : Nat) (l0 : List Int) (h : Int) (c : Int) (w : World) (hT : Aside0 (Tabs w)) (hr0 : (Kd.int .u8).C w A0 l0.length l0) (hc0 : l0.length ≤ c0) (h0 : 0 ≤ h) (h1 : h < 18446744073709551616) (hm : l0.length ≤ 9223372036854775807) :
    Calls Tryd.prog 3 #[.slice A0 l0.length c0, .int .u64 h, .int .u8 c] w fun e w' => e = .returned (.bool true) ∧ Below w.heap.size w w' := by
  obtain ⟨K1, k1⟩ := awake6_eq
  by_cases hlong : 500 < l0.length
  · have HA := Aside0.mk (k1 K1 (Nat.le_refl _))
    have HR0 := Aside0.mk hr0
    clear hr0 k1 h0 h1
    go_enter Tryd.func3, Tryd.ntmps3
    go_wp2_with (go_at_call 11; refine (hogsheadlaw6_awake.calls K1 true _ hT HA.out).mono ?_; rintro e w' ⟨rfl, hb⟩)
    go_ret
    exact ⟨rfl, hb⟩
  · obtain ⟨K2, k2⟩ := of_eq [l0] (by simp) (by intro xs hx; simp at hx; subst hx; exact hm)
    obtain ⟨K3, k3⟩ := digest_eq (strOfNums l0) (by rw [strOfNums_size]; exact hm)
    obtain ⟨K4, k4⟩ := ref_digest_eq (strOfNums l0) (by rw [strOfNums_size]; exact hm)
    obtain ⟨k, hk⟩ : ∃ k, k = K1 + K2 + K3 + K4 + l0.length + 20 := ⟨_, rfl⟩
    have HAw := Aside0.mk (k1 k (by omega))
    have HOf := Aside0.mk (k2 k (by omega))
    have HDi := Aside0.mk (k3 k (by omega))
    have HRd := Aside0.mk (k4 k (by omega))
    have HRo := Aside0.mk (ref_of_eq l0 hm k (by omega))
    have HHx := Aside0.mk (hex_eq h h0 h1)
    have HRh := Aside0.mk (ref_hex_eq h h0 h1 k (by omega))
    have HSb := Aside0.mk (sameBytes_refl l0 hm k (by omega))
    rw [sumP_one] at HOf
    have HR0 := Aside0.mk hr0
    have HC0 := Aside0.mk hc0
    have hl5 : l0.length ≤ 500 := by omega
    clear k1 k2 k3 k4 hk hr0 hc0 h0 h1 hm
    obtain ⟨S, hS⟩ : ∃ S, sumL l0 = S := ⟨_, rfl⟩
    rw [hS] at HOf HRo
    clear hS
    go_enter Tryd.func3, Tryd.ntmps3
    go_wp2_with (go_at_call 12; refine (lendBytes_calls A0 c0 l0 _ HR0.out (by omega)).mono ?_; rintro e w1 ⟨g, cap, rfl, hL, hg, hb⟩; have HL := Aside0.mk hL; have HG := Aside0.mk hg; have HB0 := Aside0.mk hb; clear hL hg hb)
    have HT1 : Aside0 (Tabs w1) := ⟨Tabs.below hT.out HB0.out⟩
    have HR1 : Aside0 ((Kd.int .u8).C w1 A0 l0.length l0) := ⟨Kd.C_below HR0.out HB0.out⟩
    have HB := Aside0.mk (Below.refl w1.heap.size w1)
    obtain ⟨D, hD⟩ : ∃ D, hexS (sumL (bytesOf (strOfNums l0))) = D := ⟨_, rfl⟩
    rw [hD] at HDi HRd
    clear hD
    go_region_with (first | (go_at_call 13; refine (sum_Of.calls k _ 1 [l0] S _ ?s1 (Nat.le_refl _) HOf.out).mono ?_; (case s1 => exact Kd.C_below (one_C (LentTo.reads HL.out (by omega)) (LentTo.room HL.out)) (by repeat (first | exact Below.refl _ _ | apply below_drew1 | apply pw_below_drewN))); rintro e wn ⟨rfl, ⟨nd, rfl⟩⟩) | (go_at_call 14; refine (hogsheadref6_Of.calls k _ _ l0 S _ ?s1 HC0.out HRo.out).mono ?_; (case s1 => exact Kd.C_below HR1.out (by repeat (first | (with_reducible first | exact HB.out | apply below_alloc | apply pw_below_drewN | apply below_drew1) | exact HB.out))); rintro e wn ⟨rfl, ⟨nd, rfl⟩⟩) | (go_at_call 15; refine (sum_Next.calls h c _ _ rfl).mono ?_; rintro e wn ⟨rfl, ⟨nd, rfl⟩⟩) | (go_at_call 16; refine (hogsheadref6_Next.calls h c _ _ rfl).mono ?_; rintro e wn ⟨rfl, ⟨nd, rfl⟩⟩) | (go_at_call 17; refine (sum_Hex.calls h (hexS h) _ ?s1 HHx.out).mono ?_; (case s1 => exact ⟨Tabs.below HT1.out (by repeat (first | (with_reducible first | exact HB.out | apply below_alloc | apply pw_below_drewN | apply below_drew1) | exact HB.out))⟩); rintro e wn ⟨rfl, hb⟩; have n0_ := Aside0.mk (below_step (by repeat (first | (with_reducible first | exact HB.out | apply below_alloc | apply pw_below_drewN | apply below_drew1) | exact HB.out)) hb); clear HB hb; have HB := n0_; clear n0_; (try clear hcv1 hcv2); have hcv1 := Kd.C_string (P := Tryd.prog) (A := A0) (c := c0) Tryd.underlying22 Tryd.underlying5 Tryd.underlying9 (Kd.C_below HR1.out HB.out); have hcv2 := C_string_any (P := Tryd.prog) (A := A0) (c := c0) Tryd.underlying22 Tryd.underlying5 Tryd.underlying9 (Kd.C_below HR1.out HB.out)) | (go_at_call 18; refine (hogsheadref6_Hex.calls k h (hexS h) _ HRh.out).mono ?_; rintro e wn ⟨rfl, hb⟩; have n0_ := Aside0.mk (below_step (by repeat (first | (with_reducible first | exact HB.out | apply below_alloc | apply pw_below_drewN | apply below_drew1) | exact HB.out)) hb); clear HB hb; have HB := n0_; clear n0_; (try clear hcv1 hcv2); have hcv1 := Kd.C_string (P := Tryd.prog) (A := A0) (c := c0) Tryd.underlying22 Tryd.underlying5 Tryd.underlying9 (Kd.C_below HR1.out HB.out); have hcv2 := C_string_any (P := Tryd.prog) (A := A0) (c := c0) Tryd.underlying22 Tryd.underlying5 Tryd.underlying9 (Kd.C_below HR1.out HB.out)) | (go_at_call 19; refine (sum_Digest.calls k (strOfNums l0) D _ ?s1 HDi.out).mono ?_; (case s1 => exact ⟨Tabs.below HT1.out (by repeat (first | (with_reducible first | exact HB.out | apply below_alloc | apply pw_below_drewN | apply below_drew1) | exact HB.out))⟩); rintro e wn ⟨rfl, hb⟩; have n0_ := Aside0.mk (below_step (by repeat (first | (with_reducible first | exact HB.out | apply below_alloc | apply pw_below_drewN | apply below_drew1) | exact HB.out)) hb); clear HB hb; have HB := n0_; clear n0_; (try clear hcv1 hcv2); have hcv1 := Kd.C_string (P := Tryd.prog) (A := A0) (c := c0) Tryd.underlying22 Tryd.underlying5 Tryd.underlying9 (Kd.C_below HR1.out HB.out); have hcv2 := C_string_any (P := Tryd.prog) (A := A0) (c := c0) Tryd.underlying22 Tryd.underlying5 Tryd.underlying9 (Kd.C_below HR1.out HB.out)) | (go_at_call 20; refine (hogsheadref6_Digest.calls k (strOfNums l0) D _ HRd.out).mono ?_; rintro e wn ⟨rfl, hb⟩; have n0_ := Aside0.mk (below_step (by repeat (first | (with_reducible first | exact HB.out | apply below_alloc | apply pw_below_drewN | apply below_drew1) | exact HB.out)) hb); clear HB hb; have HB := n0_; clear n0_; (try clear hcv1 hcv2); have hcv1 := Kd.C_string (P := Tryd.prog) (A := A0) (c := c0) Tryd.underlying22 Tryd.underlying5 Tryd.underlying9 (Kd.C_below HR1.out HB.out); have hcv2 := C_string_any (P := Tryd.prog) (A := A0) (c := c0) Tryd.underlying22 Tryd.underlying5 Tryd.underlying9 (Kd.C_below HR1.out HB.out)) | (go_at_call 21; refine (keptBytes_calls k g cap l0 _ _ l0 true _ ?s1 (by omega) ?s2 HC0.out HSb.out).mono ?_; (case s1 => exact LentTo.below HL.out (by repeat (first | (with_reducible first | exact HB.out | apply below_alloc | apply pw_below_drewN | apply below_drew1) | exact HB.out))); (case s2 => exact Kd.C_below HR1.out (by repeat (first | (with_reducible first | exact HB.out | apply below_alloc | apply pw_below_drewN | apply below_drew1) | exact HB.out))); rintro e wn ⟨rfl, ⟨nd, rfl⟩⟩) | (go_at_call 11; refine (hogsheadlaw6_awake.calls k true _ ?s1 HAw.out).mono ?_; (case s1 => exact ⟨Tabs.below HT1.out (by repeat (first | (with_reducible first | exact HB.out | apply below_alloc | apply pw_below_drewN | apply below_drew1) | exact HB.out))⟩); rintro e wn ⟨rfl, hb⟩; have n0_ := Aside0.mk (below_step (by repeat (first | (with_reducible first | exact HB.out | apply below_alloc | apply pw_below_drewN | apply below_drew1) | exact HB.out)) hb); clear HB hb; have HB := n0_; clear n0_))
    all_goals (go_wp2; go_ret; exact ⟨rfl, below_step HB0.out (by repeat (first | (with_reducible first | exact HB.out | apply below_alloc | apply pw_below_drewN | apply below_drew1) | exact HB.out))⟩)
end Go.Proofs.YtidlgdpjcognpaaDoor.X
