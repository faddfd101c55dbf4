/- Part 5 of what is behind the rows RowHeadLays, RowHeadBack, RowHeadSizes: Pf10, XPR. -/
import Derived.Test.YtidlgdpjcognpaaDoorMHead4
-- written by xprint.py (the kit's print.py, turned), out of the translation; Lean checks it.
namespace Go.Proofs.YtidlgdpjcognpaaDoor.P
open Go.Proofs.YtidlgdpjcognpaaDoor.X
open Go.RowKit Go.Proofs.YtidlgdpjcognpaaDoorW.PrintWords Go.Proofs.YtidlgdpjcognpaaDoorW.PrintLast Go.Proofs.YtidlgdpjcognpaaDoorW.PrintMore
attribute [local go_sem] max2_int min2_int max_two min_two max_three min_three max_four min_four   -- for this text's walks alone
set_option linter.unusedVariables false
set_option linter.unusedSimpArgs false

/-! ### hogsheadlaw12_HeadSizes: function 10 -/
def hogsheadlaw12_HeadSizes.j0 : Nat → Int → List Int → Bool → Option (Bool)
  | 0, _, _, _ => none
  | k + 1, x0, x5, x59 => if x59 = true then (some false) else ((head_Read.f k x5).bind fun bt286 => (if bt286.2.1 = 2 then (if bt286.2.2.1 = x0 then (if bt286.2.2.2.2 = true then ((hogsheadlaw12_awake.f k).bind fun t291 => (some t291)) else (some false)) else (some false)) else (some false)))
def hogsheadlaw12_HeadSizes.f (k : Nat) (a0 : Int) (a1 : Int) : Option (Bool) := (hogsheadlaw0_Low.f a0 8589934592).bind fun t268 => ((head_Lay.f k (⟨#[102]⟩ : ByteArray) 2 t268 (⟨#[]⟩ : ByteArray)).bind fun bt269 => ((hogsheadlaw0_Low.f a1 1000).bind fun t273 => ((head_Lay.f k (⟨#[102]⟩ : ByteArray) 2 (wrap64 (8589934592 + t273)) (⟨#[]⟩ : ByteArray)).bind fun bt274 => ((head_Lay.f k (⟨#[102]⟩ : ByteArray) 1 (wrap64 (1 + t268)) (⟨#[]⟩ : ByteArray)).bind fun bt278 => ((head_Lay.f k (⟨#[102]⟩ : ByteArray) 4 (wrap64 (1 + t268)) (⟨#[116]⟩ : ByteArray)).bind fun bt282 => (if bt269.2 = true then (if bt274.2 = true then (hogsheadlaw12_HeadSizes.j0 k t268 bt269.1 true) else (if bt278.2 = true then (hogsheadlaw12_HeadSizes.j0 k t268 bt269.1 true) else (if bt282.2 = true then (hogsheadlaw12_HeadSizes.j0 k t268 bt269.1 true) else (hogsheadlaw12_HeadSizes.j0 k t268 bt269.1 ((bt269.1.length : Int) != 512))))) else (hogsheadlaw12_HeadSizes.j0 k t268 bt269.1 true)))))))
theorem hogsheadlaw12_HeadSizes.mono_l : ∀ k, (∀ y0 y1 y2, LeO (hogsheadlaw12_HeadSizes.j0 k y0 y1 y2) (hogsheadlaw12_HeadSizes.j0 (k + 1) y0 y1 y2))
  | 0 => fun _ _ _ r h => by simp [hogsheadlaw12_HeadSizes.j0] at h
  | k + 1 => by
    have ih0 := hogsheadlaw12_HeadSizes.mono_l k
    · intro y0 y1 y2
      unfold hogsheadlaw12_HeadSizes.j0
      repeat' first
      | (with_reducible exact ih0 _ _ _)
      | (with_reducible exact head_Lay.mono _ _ _ _ _)
      | (with_reducible exact head_Read.mono _ _)
      | (with_reducible exact hogsheadlaw12_awake.mono _)
      | (with_reducible exact LeO.refl _)
      | (with_reducible exact LeO.none _)
      | (with_reducible refine LeO.ite ?_ ?_)
      | (with_reducible refine LeO.bind ?_ (fun _ => ?_))
      | exact ih0 _ _ _
      | exact head_Lay.mono _ _ _ _ _
      | exact head_Read.mono _ _
      | exact hogsheadlaw12_awake.mono _
      | exact LeO.none _
      | refine LeO.ite ?_ ?_
      | refine LeO.bind ?_ (fun _ => ?_)
theorem hogsheadlaw12_HeadSizes.mono : ∀ a0 a1 k, LeO (hogsheadlaw12_HeadSizes.f k a0 a1) (hogsheadlaw12_HeadSizes.f (k + 1) a0 a1) := by
  intro a0 a1 k
  have ih0 := hogsheadlaw12_HeadSizes.mono_l k
  unfold hogsheadlaw12_HeadSizes.f
  repeat' first
      | (with_reducible exact ih0 _ _ _)
      | (with_reducible exact head_Lay.mono _ _ _ _ _)
      | (with_reducible exact head_Read.mono _ _)
      | (with_reducible exact hogsheadlaw12_awake.mono _)
      | (with_reducible exact LeO.refl _)
      | (with_reducible exact LeO.none _)
      | (with_reducible refine LeO.ite ?_ ?_)
      | (with_reducible refine LeO.bind ?_ (fun _ => ?_))
      | exact ih0 _ _ _
      | exact head_Lay.mono _ _ _ _ _
      | exact head_Read.mono _ _
      | exact hogsheadlaw12_awake.mono _
      | exact LeO.none _
      | refine LeO.ite ?_ ?_
      | refine LeO.bind ?_ (fun _ => ?_)
set_option maxHeartbeats 8000000 in
set_option maxRecDepth 100000 in
theorem hogsheadlaw12_HeadSizes.calls (k : Nat) (a0 : Int) (a1 : Int) (r : Bool) (w : World) (hT : Aside0 (Tabs w)) (h : hogsheadlaw12_HeadSizes.f k a0 a1 = some r) :
    Calls Tryd.prog 10 #[.int .i64 a0, .int .i64 a1] w fun e w' => e = .returned (.bool r) ∧ Below w.heap.size w w' := by
  have HB := Aside0.mk (Below.refl w.heap.size w)
  have H : ((hogsheadlaw0_Low.f a0 8589934592).bind fun t268 => ((head_Lay.f k (⟨#[102]⟩ : ByteArray) 2 t268 (⟨#[]⟩ : ByteArray)).bind fun bt269 => ((hogsheadlaw0_Low.f a1 1000).bind fun t273 => ((head_Lay.f k (⟨#[102]⟩ : ByteArray) 2 (wrap64 (8589934592 + t273)) (⟨#[]⟩ : ByteArray)).bind fun bt274 => ((head_Lay.f k (⟨#[102]⟩ : ByteArray) 1 (wrap64 (1 + t268)) (⟨#[]⟩ : ByteArray)).bind fun bt278 => ((head_Lay.f k (⟨#[102]⟩ : ByteArray) 4 (wrap64 (1 + t268)) (⟨#[116]⟩ : ByteArray)).bind fun bt282 => (if bt269.2 = true then (if bt274.2 = true then (hogsheadlaw12_HeadSizes.j0 k t268 bt269.1 true) else (if bt278.2 = true then (hogsheadlaw12_HeadSizes.j0 k t268 bt269.1 true) else (if bt282.2 = true then (hogsheadlaw12_HeadSizes.j0 k t268 bt269.1 true) else (hogsheadlaw12_HeadSizes.j0 k t268 bt269.1 ((bt269.1.length : Int) != 512))))) else (hogsheadlaw12_HeadSizes.j0 k t268 bt269.1 true)))))))) = some r := h
  clear h
  replace H := Option.bind_eq_some_iff.mp H
  obtain ⟨t268, A30, H⟩ := H
  replace H : ((head_Lay.f k (⟨#[102]⟩ : ByteArray) 2 t268 (⟨#[]⟩ : ByteArray)).bind fun bt269 => ((hogsheadlaw0_Low.f a1 1000).bind fun t273 => ((head_Lay.f k (⟨#[102]⟩ : ByteArray) 2 (wrap64 (8589934592 + t273)) (⟨#[]⟩ : ByteArray)).bind fun bt274 => ((head_Lay.f k (⟨#[102]⟩ : ByteArray) 1 (wrap64 (1 + t268)) (⟨#[]⟩ : ByteArray)).bind fun bt278 => ((head_Lay.f k (⟨#[102]⟩ : ByteArray) 4 (wrap64 (1 + t268)) (⟨#[116]⟩ : ByteArray)).bind fun bt282 => (if bt269.2 = true then (if bt274.2 = true then (hogsheadlaw12_HeadSizes.j0 k t268 bt269.1 true) else (if bt278.2 = true then (hogsheadlaw12_HeadSizes.j0 k t268 bt269.1 true) else (if bt282.2 = true then (hogsheadlaw12_HeadSizes.j0 k t268 bt269.1 true) else (hogsheadlaw12_HeadSizes.j0 k t268 bt269.1 ((bt269.1.length : Int) != 512))))) else (hogsheadlaw12_HeadSizes.j0 k t268 bt269.1 true))))))) = some r := H
  have A3 := Aside0.mk A30
  clear A30
  replace H := Option.bind_eq_some_iff.mp H
  obtain ⟨⟨t269, t270⟩, A40, H⟩ := H
  replace H : ((hogsheadlaw0_Low.f a1 1000).bind fun t273 => ((head_Lay.f k (⟨#[102]⟩ : ByteArray) 2 (wrap64 (8589934592 + t273)) (⟨#[]⟩ : ByteArray)).bind fun bt274 => ((head_Lay.f k (⟨#[102]⟩ : ByteArray) 1 (wrap64 (1 + t268)) (⟨#[]⟩ : ByteArray)).bind fun bt278 => ((head_Lay.f k (⟨#[102]⟩ : ByteArray) 4 (wrap64 (1 + t268)) (⟨#[116]⟩ : ByteArray)).bind fun bt282 => (if t270 = true then (if bt274.2 = true then (hogsheadlaw12_HeadSizes.j0 k t268 t269 true) else (if bt278.2 = true then (hogsheadlaw12_HeadSizes.j0 k t268 t269 true) else (if bt282.2 = true then (hogsheadlaw12_HeadSizes.j0 k t268 t269 true) else (hogsheadlaw12_HeadSizes.j0 k t268 t269 ((t269.length : Int) != 512))))) else (hogsheadlaw12_HeadSizes.j0 k t268 t269 true)))))) = some r := H
  have A4 := Aside0.mk A40
  clear A40
  replace H := Option.bind_eq_some_iff.mp H
  obtain ⟨t273, A50, H⟩ := H
  replace H : ((head_Lay.f k (⟨#[102]⟩ : ByteArray) 2 (wrap64 (8589934592 + t273)) (⟨#[]⟩ : ByteArray)).bind fun bt274 => ((head_Lay.f k (⟨#[102]⟩ : ByteArray) 1 (wrap64 (1 + t268)) (⟨#[]⟩ : ByteArray)).bind fun bt278 => ((head_Lay.f k (⟨#[102]⟩ : ByteArray) 4 (wrap64 (1 + t268)) (⟨#[116]⟩ : ByteArray)).bind fun bt282 => (if t270 = true then (if bt274.2 = true then (hogsheadlaw12_HeadSizes.j0 k t268 t269 true) else (if bt278.2 = true then (hogsheadlaw12_HeadSizes.j0 k t268 t269 true) else (if bt282.2 = true then (hogsheadlaw12_HeadSizes.j0 k t268 t269 true) else (hogsheadlaw12_HeadSizes.j0 k t268 t269 ((t269.length : Int) != 512))))) else (hogsheadlaw12_HeadSizes.j0 k t268 t269 true))))) = some r := H
  have A5 := Aside0.mk A50
  clear A50
  replace H := Option.bind_eq_some_iff.mp H
  obtain ⟨⟨t274, t275⟩, A60, H⟩ := H
  replace H : ((head_Lay.f k (⟨#[102]⟩ : ByteArray) 1 (wrap64 (1 + t268)) (⟨#[]⟩ : ByteArray)).bind fun bt278 => ((head_Lay.f k (⟨#[102]⟩ : ByteArray) 4 (wrap64 (1 + t268)) (⟨#[116]⟩ : ByteArray)).bind fun bt282 => (if t270 = true then (if t275 = true then (hogsheadlaw12_HeadSizes.j0 k t268 t269 true) else (if bt278.2 = true then (hogsheadlaw12_HeadSizes.j0 k t268 t269 true) else (if bt282.2 = true then (hogsheadlaw12_HeadSizes.j0 k t268 t269 true) else (hogsheadlaw12_HeadSizes.j0 k t268 t269 ((t269.length : Int) != 512))))) else (hogsheadlaw12_HeadSizes.j0 k t268 t269 true)))) = some r := H
  have A6 := Aside0.mk A60
  clear A60
  replace H := Option.bind_eq_some_iff.mp H
  obtain ⟨⟨t278, t279⟩, A70, H⟩ := H
  replace H : ((head_Lay.f k (⟨#[102]⟩ : ByteArray) 4 (wrap64 (1 + t268)) (⟨#[116]⟩ : ByteArray)).bind fun bt282 => (if t270 = true then (if t275 = true then (hogsheadlaw12_HeadSizes.j0 k t268 t269 true) else (if t279 = true then (hogsheadlaw12_HeadSizes.j0 k t268 t269 true) else (if bt282.2 = true then (hogsheadlaw12_HeadSizes.j0 k t268 t269 true) else (hogsheadlaw12_HeadSizes.j0 k t268 t269 ((t269.length : Int) != 512))))) else (hogsheadlaw12_HeadSizes.j0 k t268 t269 true))) = some r := H
  have A7 := Aside0.mk A70
  clear A70
  replace H := Option.bind_eq_some_iff.mp H
  obtain ⟨⟨t282, t283⟩, A80, H⟩ := H
  replace H : (if t270 = true then (if t275 = true then (hogsheadlaw12_HeadSizes.j0 k t268 t269 true) else (if t279 = true then (hogsheadlaw12_HeadSizes.j0 k t268 t269 true) else (if t283 = true then (hogsheadlaw12_HeadSizes.j0 k t268 t269 true) else (hogsheadlaw12_HeadSizes.j0 k t268 t269 ((t269.length : Int) != 512))))) else (hogsheadlaw12_HeadSizes.j0 k t268 t269 true)) = some r := H
  have A8 := Aside0.mk A80
  clear A80
  have HC9 := Aside0.mk H
  clear H
  go_enter Tryd.func10, Tryd.ntmps10
  go_upto_region 6 with (first | ((with_reducible refine gate_callee (f := 22) rfl ?_); refine goesL_ (some 19) rfl rfl Tryd.func22 (by kernel_rfl) rfl #[.int .i64 a0, .int .i64 8589934592] rfl (by (try simp only [List.map_toArray, List.map_cons, List.map_nil]); first | done | rfl | (simp only [List.length_drop, List.length_take]; rfl)) ?_; (with_reducible refine (hogsheadlaw0_Low.calls a0 8589934592 t268 _ A3.out).mono ?_); rintro e w' ⟨rfl, ⟨nd, rfl⟩⟩; refine ⟨_, rfl, ?_⟩) | ((with_reducible refine gate_callee (f := 28) rfl ?_); refine goesL_ (some 22) rfl rfl Tryd.func28 (by kernel_rfl) rfl #[.string (⟨#[102]⟩ : ByteArray), .int .i64 2, .int .i64 t268, .string (⟨#[]⟩ : ByteArray)] rfl (by (try simp only [List.map_toArray, List.map_cons, List.map_nil]); first | done | rfl | (simp only [List.length_drop, List.length_take]; rfl)) ?_; (with_reducible refine (head_Lay.calls k (⟨#[102]⟩ : ByteArray) 2 t268 (⟨#[]⟩ : ByteArray) t269 t270 _ ?side1 A4.out).mono ?_); (case side1 => exact ⟨Tabs.below hT.out (by repeat (first | (with_reducible first | exact HB.out | apply below_alloc | apply pw_below_drewN | apply below_drew1) | exact HB.out))⟩); rintro e w10 ⟨v271, rfl, ho0, hb⟩; refine ⟨_, rfl, ?_⟩; have n0_ := Aside0.mk (Kd.R_lower ho0 (below_size (by repeat (first | (with_reducible first | exact HB.out | apply below_alloc | apply pw_below_drewN | apply below_drew1) | exact HB.out)))); have n1_ := Aside0.mk (below_step (by repeat (first | (with_reducible first | exact HB.out | apply below_alloc | apply pw_below_drewN | apply below_drew1) | exact HB.out)) hb); clear HB; have HO272 := n0_; have HB := n1_; clear n0_ n1_; (try clear hb); (try clear hb2); (try clear hk); (try clear hi); (try clear ho0)) | ((with_reducible refine gate_callee (f := 22) rfl ?_); refine goesL_ (some 27) rfl rfl Tryd.func22 (by kernel_rfl) rfl #[.int .i64 a1, .int .i64 1000] rfl (by (try simp only [List.map_toArray, List.map_cons, List.map_nil]); first | done | rfl | (simp only [List.length_drop, List.length_take]; rfl)) ?_; (with_reducible refine (hogsheadlaw0_Low.calls a1 1000 t273 _ A5.out).mono ?_); rintro e w' ⟨rfl, ⟨nd, rfl⟩⟩; refine ⟨_, rfl, ?_⟩) | ((with_reducible refine gate_callee (f := 28) rfl ?_); refine goesL_ (some 29) rfl rfl Tryd.func28 (by kernel_rfl) rfl #[.string (⟨#[102]⟩ : ByteArray), .int .i64 2, .int .i64 (wrap64 (8589934592 + t273)), .string (⟨#[]⟩ : ByteArray)] rfl (by (try simp only [List.map_toArray, List.map_cons, List.map_nil]); first | done | rfl | (simp only [List.length_drop, List.length_take]; rfl)) ?_; (with_reducible refine (head_Lay.calls k (⟨#[102]⟩ : ByteArray) 2 (wrap64 (8589934592 + t273)) (⟨#[]⟩ : ByteArray) t274 t275 _ ?side1 A6.out).mono ?_); (case side1 => exact ⟨Tabs.below hT.out (by repeat (first | (with_reducible first | exact HB.out | apply below_alloc | apply pw_below_drewN | apply below_drew1) | exact HB.out))⟩); rintro e w11 ⟨v276, rfl, ho0, hb⟩; refine ⟨_, rfl, ?_⟩; have n0_ := Aside0.mk (Kd.R_elder' (by (with_reducible repeat (first | apply Kd.R_alloc | apply Kd.R_drewN | apply Kd.R_drew)); exact HO272.out) (Kd.R_base ho0) hb); have n1_ := Aside0.mk (Kd.R_lower (Kd.R_new' ho0 (Kd.R_lt (by (with_reducible repeat (first | apply Kd.R_alloc | apply Kd.R_drewN | apply Kd.R_drew)); exact HO272.out))) (below_size (by repeat (first | (with_reducible first | exact HB.out | apply below_alloc | apply pw_below_drewN | apply below_drew1) | exact HB.out)))); have n2_ := Aside0.mk (below_step (by repeat (first | (with_reducible first | exact HB.out | apply below_alloc | apply pw_below_drewN | apply below_drew1) | exact HB.out)) hb); clear HO272; clear HB; have HO272 := n0_; have HO277 := n1_; have HB := n2_; clear n0_ n1_ n2_; (try clear hb); (try clear hb2); (try clear hk); (try clear hi); (try clear ho0)) | ((with_reducible refine gate_callee (f := 28) rfl ?_); refine goesL_ (some 35) rfl rfl Tryd.func28 (by kernel_rfl) rfl #[.string (⟨#[102]⟩ : ByteArray), .int .i64 1, .int .i64 (wrap64 (1 + t268)), .string (⟨#[]⟩ : ByteArray)] rfl (by (try simp only [List.map_toArray, List.map_cons, List.map_nil]); first | done | rfl | (simp only [List.length_drop, List.length_take]; rfl)) ?_; (with_reducible refine (head_Lay.calls k (⟨#[102]⟩ : ByteArray) 1 (wrap64 (1 + t268)) (⟨#[]⟩ : ByteArray) t278 t279 _ ?side1 A7.out).mono ?_); (case side1 => exact ⟨Tabs.below hT.out (by repeat (first | (with_reducible first | exact HB.out | apply below_alloc | apply pw_below_drewN | apply below_drew1) | exact HB.out))⟩); rintro e w12 ⟨v280, rfl, ho0, hb⟩; refine ⟨_, rfl, ?_⟩; have n0_ := Aside0.mk (Kd.R_elder' (by (with_reducible repeat (first | apply Kd.R_alloc | apply Kd.R_drewN | apply Kd.R_drew)); exact HO272.out) (Kd.R_base ho0) hb); have n1_ := Aside0.mk (Kd.R_elder' (by (with_reducible repeat (first | apply Kd.R_alloc | apply Kd.R_drewN | apply Kd.R_drew)); exact HO277.out) (Kd.R_base ho0) hb); have n2_ := Aside0.mk (Kd.R_lower (Kd.R_new' (Kd.R_new' ho0 (Kd.R_lt (by (with_reducible repeat (first | apply Kd.R_alloc | apply Kd.R_drewN | apply Kd.R_drew)); exact HO272.out))) (Kd.R_lt (by (with_reducible repeat (first | apply Kd.R_alloc | apply Kd.R_drewN | apply Kd.R_drew)); exact HO277.out))) (below_size (by repeat (first | (with_reducible first | exact HB.out | apply below_alloc | apply pw_below_drewN | apply below_drew1) | exact HB.out)))); have n3_ := Aside0.mk (below_step (by repeat (first | (with_reducible first | exact HB.out | apply below_alloc | apply pw_below_drewN | apply below_drew1) | exact HB.out)) hb); clear HO272; clear HO277; clear HB; have HO272 := n0_; have HO277 := n1_; have HO281 := n2_; have HB := n3_; clear n0_ n1_ n2_ n3_; (try clear hb); (try clear hb2); (try clear hk); (try clear hi); (try clear ho0)) | ((with_reducible refine gate_callee (f := 28) rfl ?_); refine goesL_ (some 41) rfl rfl Tryd.func28 (by kernel_rfl) rfl #[.string (⟨#[102]⟩ : ByteArray), .int .i64 4, .int .i64 (wrap64 (1 + t268)), .string (⟨#[116]⟩ : ByteArray)] rfl (by (try simp only [List.map_toArray, List.map_cons, List.map_nil]); first | done | rfl | (simp only [List.length_drop, List.length_take]; rfl)) ?_; (with_reducible refine (head_Lay.calls k (⟨#[102]⟩ : ByteArray) 4 (wrap64 (1 + t268)) (⟨#[116]⟩ : ByteArray) t282 t283 _ ?side1 A8.out).mono ?_); (case side1 => exact ⟨Tabs.below hT.out (by repeat (first | (with_reducible first | exact HB.out | apply below_alloc | apply pw_below_drewN | apply below_drew1) | exact HB.out))⟩); rintro e w13 ⟨v284, rfl, ho0, hb⟩; refine ⟨_, rfl, ?_⟩; have n0_ := Aside0.mk (Kd.R_elder' (by (with_reducible repeat (first | apply Kd.R_alloc | apply Kd.R_drewN | apply Kd.R_drew)); exact HO272.out) (Kd.R_base ho0) hb); have n1_ := Aside0.mk (Kd.R_elder' (by (with_reducible repeat (first | apply Kd.R_alloc | apply Kd.R_drewN | apply Kd.R_drew)); exact HO277.out) (Kd.R_base ho0) hb); have n2_ := Aside0.mk (Kd.R_elder' (by (with_reducible repeat (first | apply Kd.R_alloc | apply Kd.R_drewN | apply Kd.R_drew)); exact HO281.out) (Kd.R_base ho0) hb); have n3_ := Aside0.mk (Kd.R_lower (Kd.R_new' (Kd.R_new' (Kd.R_new' ho0 (Kd.R_lt (by (with_reducible repeat (first | apply Kd.R_alloc | apply Kd.R_drewN | apply Kd.R_drew)); exact HO272.out))) (Kd.R_lt (by (with_reducible repeat (first | apply Kd.R_alloc | apply Kd.R_drewN | apply Kd.R_drew)); exact HO277.out))) (Kd.R_lt (by (with_reducible repeat (first | apply Kd.R_alloc | apply Kd.R_drewN | apply Kd.R_drew)); exact HO281.out))) (below_size (by repeat (first | (with_reducible first | exact HB.out | apply below_alloc | apply pw_below_drewN | apply below_drew1) | exact HB.out)))); have n4_ := Aside0.mk (below_step (by repeat (first | (with_reducible first | exact HB.out | apply below_alloc | apply pw_below_drewN | apply below_drew1) | exact HB.out)) hb); clear HO272; clear HO277; clear HO281; clear HB; have HO272 := n0_; have HO277 := n1_; have HO281 := n2_; have HO285 := n3_; have HB := n4_; clear n0_ n1_ n2_ n3_ n4_; (try clear hb); (try clear hb2); (try clear hk); (try clear hi); (try clear ho0)))
  (try simp only [Act.put, List.setIfInBounds_toArray, List.set_cons_zero, List.set_cons_succ])
  go_cut [59] (fun v59 wc => ∃ (kq : Nat) (x59_8 : Bool), v59 = .bool x59_8 ∧ Aside0 (hogsheadlaw12_HeadSizes.j0 kq t268 t269 x59_8 = some r) ∧ Aside0 (kq ≤ k) ∧ Aside0 (Kd.R (Kd.int .u8) 5 wc w.heap.size (fun _ => True) v271 t269) ∧ Aside0 (Below w.heap.size w wc))
  case first =>
    have H := HC9.out
    clear HC9
    by_cases c14 : t270 = true
    · subst c14
      have H1 : (if t275 = true then (hogsheadlaw12_HeadSizes.j0 k t268 t269 true) else (if t279 = true then (hogsheadlaw12_HeadSizes.j0 k t268 t269 true) else (if t283 = true then (hogsheadlaw12_HeadSizes.j0 k t268 t269 true) else (hogsheadlaw12_HeadSizes.j0 k t268 t269 ((t269.length : Int) != 512))))) = some r := by rw [if_pos rfl] at H; exact H
      clear H
      have H := H1
      clear H1
      by_cases c15 : t275 = true
      · subst c15
        have H1 : (hogsheadlaw12_HeadSizes.j0 k t268 t269 true) = some r := by rw [if_pos rfl] at H; exact H
        clear H
        have H := H1
        clear H1
        have H' := Aside0.mk H
        clear H
        go_wp2
        go_meet
        case rel => exact ⟨_, (true), (by first | rfl | (simp; done) | (simp [*]; done)), H', ⟨by first | omega | exact Nat.le_refl _⟩, ⟨by (with_reducible repeat (first | apply Kd.R_alloc | apply Kd.R_drewN | apply Kd.R_drew)); exact Kd.R_mono HO272.out (fun _ hk => trivial)⟩, ⟨by repeat (first | (with_reducible first | exact HB.out | apply below_alloc | apply pw_below_drewN | apply below_drew1) | exact HB.out)⟩⟩
      · replace c15 := Bool.eq_false_iff.mpr c15
        subst c15
        have H1 : (if t279 = true then (hogsheadlaw12_HeadSizes.j0 k t268 t269 true) else (if t283 = true then (hogsheadlaw12_HeadSizes.j0 k t268 t269 true) else (hogsheadlaw12_HeadSizes.j0 k t268 t269 ((t269.length : Int) != 512)))) = some r := by rw [if_neg (show ¬ (false = true) by decide)] at H; exact H
        clear H
        have H := H1
        clear H1
        by_cases c16 : t279 = true
        · subst c16
          have H1 : (hogsheadlaw12_HeadSizes.j0 k t268 t269 true) = some r := by rw [if_pos rfl] at H; exact H
          clear H
          have H := H1
          clear H1
          have H' := Aside0.mk H
          clear H
          go_wp2
          go_meet
          case rel => exact ⟨_, (true), (by first | rfl | (simp; done) | (simp [*]; done)), H', ⟨by first | omega | exact Nat.le_refl _⟩, ⟨by (with_reducible repeat (first | apply Kd.R_alloc | apply Kd.R_drewN | apply Kd.R_drew)); exact Kd.R_mono HO272.out (fun _ hk => trivial)⟩, ⟨by repeat (first | (with_reducible first | exact HB.out | apply below_alloc | apply pw_below_drewN | apply below_drew1) | exact HB.out)⟩⟩
        · replace c16 := Bool.eq_false_iff.mpr c16
          subst c16
          have H1 : (if t283 = true then (hogsheadlaw12_HeadSizes.j0 k t268 t269 true) else (hogsheadlaw12_HeadSizes.j0 k t268 t269 ((t269.length : Int) != 512))) = some r := by rw [if_neg (show ¬ (false = true) by decide)] at H; exact H
          clear H
          have H := H1
          clear H1
          by_cases c17 : t283 = true
          · subst c17
            have H1 : (hogsheadlaw12_HeadSizes.j0 k t268 t269 true) = some r := by rw [if_pos rfl] at H; exact H
            clear H
            have H := H1
            clear H1
            have H' := Aside0.mk H
            clear H
            go_wp2
            go_meet
            case rel => exact ⟨_, (true), (by first | rfl | (simp; done) | (simp [*]; done)), H', ⟨by first | omega | exact Nat.le_refl _⟩, ⟨by (with_reducible repeat (first | apply Kd.R_alloc | apply Kd.R_drewN | apply Kd.R_drew)); exact Kd.R_mono HO272.out (fun _ hk => trivial)⟩, ⟨by repeat (first | (with_reducible first | exact HB.out | apply below_alloc | apply pw_below_drewN | apply below_drew1) | exact HB.out)⟩⟩
          · replace c17 := Bool.eq_false_iff.mpr c17
            subst c17
            have H1 : (hogsheadlaw12_HeadSizes.j0 k t268 t269 ((t269.length : Int) != 512)) = some r := by rw [if_neg (show ¬ (false = true) by decide)] at H; exact H
            clear H
            have H := H1
            clear H1
            have H' := Aside0.mk H
            clear H
            obtain ⟨Ao18, co18, eo18⟩ := Kd.R_slice HO272.out
            subst eo18
            go_wp2
            go_meet
            case rel => exact ⟨_, (((t269.length : Int) != 512)), (by first | rfl | (simp; done) | (simp [*]; done)), H', ⟨by first | omega | exact Nat.le_refl _⟩, ⟨by (with_reducible repeat (first | apply Kd.R_alloc | apply Kd.R_drewN | apply Kd.R_drew)); exact Kd.R_mono HO272.out (fun _ hk => trivial)⟩, ⟨by repeat (first | (with_reducible first | exact HB.out | apply below_alloc | apply pw_below_drewN | apply below_drew1) | exact HB.out)⟩⟩
    · replace c14 := Bool.eq_false_iff.mpr c14
      subst c14
      have H1 : (hogsheadlaw12_HeadSizes.j0 k t268 t269 true) = some r := by rw [if_neg (show ¬ (false = true) by decide)] at H; exact H
      clear H
      have H := H1
      clear H1
      have H' := Aside0.mk H
      clear H
      go_wp2
      go_meet
      case rel => exact ⟨_, (true), (by first | rfl | (simp; done) | (simp [*]; done)), H', ⟨by first | omega | exact Nat.le_refl _⟩, ⟨by (with_reducible repeat (first | apply Kd.R_alloc | apply Kd.R_drewN | apply Kd.R_drew)); exact Kd.R_mono HO272.out (fun _ hk => trivial)⟩, ⟨by repeat (first | (with_reducible first | exact HB.out | apply below_alloc | apply pw_below_drewN | apply below_drew1) | exact HB.out)⟩⟩
  case rest =>
    clear HC9
    try clear c1
    try clear c2
    try clear p2
    try clear p6
    try clear c10
    try clear c14
    try clear c15
    try clear c16
    try clear c17
    obtain ⟨kq, x59_8, rfl, HA, HJ8, HO_5, HB⟩ := hcut
    cases kq with
    | zero => exact absurd HA.out (by simp [hogsheadlaw12_HeadSizes.j0])
    | succ kj8 =>
      have H := HA.out
      clear HA
      simp only [hogsheadlaw12_HeadSizes.j0] at H
      by_cases c19 : x59_8 = true
      · subst c19
        have H1 : (some false) = some r := by rw [if_pos rfl] at H; exact H
        clear H
        have H := H1
        clear H1
        obtain rfl := Option.some.inj H
        go_wp2
        go_ret
        exact ⟨by first | rfl | (simp [errW_none, errW_some] <;> rfl) | (simp [*, errW_none, errW_some] <;> rfl), by repeat (first | (with_reducible first | exact HB.out | apply below_alloc | apply pw_below_drewN | apply below_drew1) | exact HB.out)⟩
      · replace c19 := Bool.eq_false_iff.mpr c19
        subst c19
        have H1 : ((head_Read.f kj8 t269).bind fun bt286 => (if bt286.2.1 = 2 then (if bt286.2.2.1 = t268 then (if bt286.2.2.2.2 = true then ((hogsheadlaw12_awake.f kj8).bind fun t291 => (some t291)) else (some false)) else (some false)) else (some false))) = some r := by rw [if_neg (show ¬ (false = true) by decide)] at H; exact H
        clear H
        have H := H1
        clear H1
        replace H := Option.bind_eq_some_iff.mp H
        obtain ⟨⟨t286, t287, t288, t289, t290⟩, A200, H⟩ := H
        replace H : (if t287 = 2 then (if t288 = t268 then (if t290 = true then ((hogsheadlaw12_awake.f kj8).bind fun t291 => (some t291)) else (some false)) else (some false)) else (some false)) = some r := H
        have A20 := Aside0.mk A200
        clear A200
        by_cases c21 : t287 = 2
        · rw [if_pos c21] at H
          have c21b0 : (t287 == 2) = true := beq_iff_eq.mpr c21
          have c21b1 : (t287 != 2) = false := bne_eq_false_iff_eq.mpr c21
          clear c21
          by_cases c22 : t288 = t268
          · rw [if_pos c22] at H
            have c22b0 : (t288 == t268) = true := beq_iff_eq.mpr c22
            have c22b1 : (t288 != t268) = false := bne_eq_false_iff_eq.mpr c22
            clear c22
            by_cases c23 : t290 = true
            · subst c23
              have H1 : ((hogsheadlaw12_awake.f kj8).bind fun t291 => (some t291)) = some r := by rw [if_pos rfl] at H; exact H
              clear H
              have H := H1
              clear H1
              replace H := Option.bind_eq_some_iff.mp H
              obtain ⟨t291, A240, H⟩ := H
              replace H : (some t291) = some r := H
              have A24 := Aside0.mk A240
              clear A240
              obtain rfl := Option.some.inj H
              obtain ⟨Ao25, co25, eo25⟩ := Kd.R_slice HO_5.out
              subst eo25
              go_wp2_with (first | ((with_reducible refine gate_callee (f := 32) rfl ?_); refine goesL_ (some 62) rfl rfl Tryd.func32 (by kernel_rfl) rfl #[.slice Ao25 t269.length co25] rfl (by (try simp only [List.map_toArray, List.map_cons, List.map_nil]); first | done | rfl | (simp only [List.length_drop, List.length_take]; rfl)) ?_; (with_reducible refine (head_Read.calls kj8 _ _ t269 t286 t287 t288 t289 true _ ?side1 ?side2 ?side3 A20.out).mono ?_); (case side1 => exact ⟨Tabs.below hT.out (by repeat (first | (with_reducible first | exact HB.out | apply below_alloc | apply pw_below_drewN | apply below_drew1) | exact HB.out))⟩); (case side2 => repeat (first | exact (Kd.R_reads' HO_5.out).2.2 | (with_reducible refine Kd.C_alloc ?_ _) | (with_reducible refine Kd.C_drewN ?_ _) | (with_reducible refine Kd.C_drew ?_))); (case side3 => exact (Kd.R_reads' HO_5.out).2.1); rintro e w26 ⟨rfl, hb⟩; refine ⟨_, rfl, ?_⟩; have n0_ := Aside0.mk (Kd.R_below (by (with_reducible repeat (first | apply Kd.R_alloc | apply Kd.R_drewN | apply Kd.R_drew)); exact HO_5.out) hb); have n1_ := Aside0.mk (below_step (by repeat (first | (with_reducible first | exact HB.out | apply below_alloc | apply pw_below_drewN | apply below_drew1) | exact HB.out)) hb); clear HO_5; clear HB; have HO_5 := n0_; have HB := n1_; clear n0_ n1_; (try clear hb); (try clear hb2); (try clear hk); (try clear hi)) | (go_at_call 23; (with_reducible refine (hogsheadlaw12_awake.calls kj8  t291 _ ?side1 A24.out).mono ?_); (case side1 => exact ⟨Tabs.below hT.out (by repeat (first | (with_reducible first | exact HB.out | apply below_alloc | apply pw_below_drewN | apply below_drew1) | exact HB.out))⟩); rintro e w27 ⟨rfl, hb⟩; have n0_ := Aside0.mk (Kd.R_below (by (with_reducible repeat (first | apply Kd.R_alloc | apply Kd.R_drewN | apply Kd.R_drew)); exact HO_5.out) hb); have n1_ := Aside0.mk (below_step (by repeat (first | (with_reducible first | exact HB.out | apply below_alloc | apply pw_below_drewN | apply below_drew1) | exact HB.out)) hb); clear HO_5; clear HB; have HO_5 := n0_; have HB := n1_; clear n0_ n1_; (try clear hb); (try clear hb2); (try clear hk); (try clear hi)))
              go_ret
              exact ⟨by first | rfl | (simp [errW_none, errW_some] <;> rfl) | (simp [*, errW_none, errW_some] <;> rfl), by repeat (first | (with_reducible first | exact HB.out | apply below_alloc | apply pw_below_drewN | apply below_drew1) | exact HB.out)⟩
            · replace c23 := Bool.eq_false_iff.mpr c23
              subst c23
              have H1 : (some false) = some r := by rw [if_neg (show ¬ (false = true) by decide)] at H; exact H
              clear H
              have H := H1
              clear H1
              obtain rfl := Option.some.inj H
              obtain ⟨Ao28, co28, eo28⟩ := Kd.R_slice HO_5.out
              subst eo28
              go_wp2_with (first | ((with_reducible refine gate_callee (f := 32) rfl ?_); refine goesL_ (some 62) rfl rfl Tryd.func32 (by kernel_rfl) rfl #[.slice Ao28 t269.length co28] rfl (by (try simp only [List.map_toArray, List.map_cons, List.map_nil]); first | done | rfl | (simp only [List.length_drop, List.length_take]; rfl)) ?_; (with_reducible refine (head_Read.calls kj8 _ _ t269 t286 t287 t288 t289 false _ ?side1 ?side2 ?side3 A20.out).mono ?_); (case side1 => exact ⟨Tabs.below hT.out (by repeat (first | (with_reducible first | exact HB.out | apply below_alloc | apply pw_below_drewN | apply below_drew1) | exact HB.out))⟩); (case side2 => repeat (first | exact (Kd.R_reads' HO_5.out).2.2 | (with_reducible refine Kd.C_alloc ?_ _) | (with_reducible refine Kd.C_drewN ?_ _) | (with_reducible refine Kd.C_drew ?_))); (case side3 => exact (Kd.R_reads' HO_5.out).2.1); rintro e w29 ⟨rfl, hb⟩; refine ⟨_, rfl, ?_⟩; have n0_ := Aside0.mk (Kd.R_below (by (with_reducible repeat (first | apply Kd.R_alloc | apply Kd.R_drewN | apply Kd.R_drew)); exact HO_5.out) hb); have n1_ := Aside0.mk (below_step (by repeat (first | (with_reducible first | exact HB.out | apply below_alloc | apply pw_below_drewN | apply below_drew1) | exact HB.out)) hb); clear HO_5; clear HB; have HO_5 := n0_; have HB := n1_; clear n0_ n1_; (try clear hb); (try clear hb2); (try clear hk); (try clear hi)))
              go_ret
              exact ⟨by first | rfl | (simp [errW_none, errW_some] <;> rfl) | (simp [*, errW_none, errW_some] <;> rfl), by repeat (first | (with_reducible first | exact HB.out | apply below_alloc | apply pw_below_drewN | apply below_drew1) | exact HB.out)⟩
          · rw [if_neg c22] at H
            have c22b0 : (t288 == t268) = false := beq_eq_false_iff_ne.mpr c22
            have c22b1 : (t288 != t268) = true := bne_iff_ne.mpr c22
            obtain rfl := Option.some.inj H
            obtain ⟨Ao30, co30, eo30⟩ := Kd.R_slice HO_5.out
            subst eo30
            go_wp2_with (first | ((with_reducible refine gate_callee (f := 32) rfl ?_); refine goesL_ (some 62) rfl rfl Tryd.func32 (by kernel_rfl) rfl #[.slice Ao30 t269.length co30] rfl (by (try simp only [List.map_toArray, List.map_cons, List.map_nil]); first | done | rfl | (simp only [List.length_drop, List.length_take]; rfl)) ?_; (with_reducible refine (head_Read.calls kj8 _ _ t269 t286 t287 t288 t289 t290 _ ?side1 ?side2 ?side3 A20.out).mono ?_); (case side1 => exact ⟨Tabs.below hT.out (by repeat (first | (with_reducible first | exact HB.out | apply below_alloc | apply pw_below_drewN | apply below_drew1) | exact HB.out))⟩); (case side2 => repeat (first | exact (Kd.R_reads' HO_5.out).2.2 | (with_reducible refine Kd.C_alloc ?_ _) | (with_reducible refine Kd.C_drewN ?_ _) | (with_reducible refine Kd.C_drew ?_))); (case side3 => exact (Kd.R_reads' HO_5.out).2.1); rintro e w31 ⟨rfl, hb⟩; refine ⟨_, rfl, ?_⟩; have n0_ := Aside0.mk (Kd.R_below (by (with_reducible repeat (first | apply Kd.R_alloc | apply Kd.R_drewN | apply Kd.R_drew)); exact HO_5.out) hb); have n1_ := Aside0.mk (below_step (by repeat (first | (with_reducible first | exact HB.out | apply below_alloc | apply pw_below_drewN | apply below_drew1) | exact HB.out)) hb); clear HO_5; clear HB; have HO_5 := n0_; have HB := n1_; clear n0_ n1_; (try clear hb); (try clear hb2); (try clear hk); (try clear hi)))
            go_ret
            exact ⟨by first | rfl | (simp [errW_none, errW_some] <;> rfl) | (simp [*, errW_none, errW_some] <;> rfl), by repeat (first | (with_reducible first | exact HB.out | apply below_alloc | apply pw_below_drewN | apply below_drew1) | exact HB.out)⟩
        · rw [if_neg c21] at H
          have c21b0 : (t287 == 2) = false := beq_eq_false_iff_ne.mpr c21
          have c21b1 : (t287 != 2) = true := bne_iff_ne.mpr c21
          obtain rfl := Option.some.inj H
          obtain ⟨Ao32, co32, eo32⟩ := Kd.R_slice HO_5.out
          subst eo32
          go_wp2_with (first | ((with_reducible refine gate_callee (f := 32) rfl ?_); refine goesL_ (some 62) rfl rfl Tryd.func32 (by kernel_rfl) rfl #[.slice Ao32 t269.length co32] rfl (by (try simp only [List.map_toArray, List.map_cons, List.map_nil]); first | done | rfl | (simp only [List.length_drop, List.length_take]; rfl)) ?_; (with_reducible refine (head_Read.calls kj8 _ _ t269 t286 t287 t288 t289 t290 _ ?side1 ?side2 ?side3 A20.out).mono ?_); (case side1 => exact ⟨Tabs.below hT.out (by repeat (first | (with_reducible first | exact HB.out | apply below_alloc | apply pw_below_drewN | apply below_drew1) | exact HB.out))⟩); (case side2 => repeat (first | exact (Kd.R_reads' HO_5.out).2.2 | (with_reducible refine Kd.C_alloc ?_ _) | (with_reducible refine Kd.C_drewN ?_ _) | (with_reducible refine Kd.C_drew ?_))); (case side3 => exact (Kd.R_reads' HO_5.out).2.1); rintro e w33 ⟨rfl, hb⟩; refine ⟨_, rfl, ?_⟩; have n0_ := Aside0.mk (Kd.R_below (by (with_reducible repeat (first | apply Kd.R_alloc | apply Kd.R_drewN | apply Kd.R_drew)); exact HO_5.out) hb); have n1_ := Aside0.mk (below_step (by repeat (first | (with_reducible first | exact HB.out | apply below_alloc | apply pw_below_drewN | apply below_drew1) | exact HB.out)) hb); clear HO_5; clear HB; have HO_5 := n0_; have HB := n1_; clear n0_ n1_; (try clear hb); (try clear hb2); (try clear hk); (try clear hi)))
          go_ret
          exact ⟨by first | rfl | (simp [errW_none, errW_some] <;> rfl) | (simp [*, errW_none, errW_some] <;> rfl), by repeat (first | (with_reducible first | exact HB.out | apply below_alloc | apply pw_below_drewN | apply below_drew1) | exact HB.out)⟩

end Go.Proofs.YtidlgdpjcognpaaDoor.P

/- HeadBack and HeadSizes, as the printed functions tell them: true of every input. -/
namespace Go.Proofs.YtidlgdpjcognpaaDoor.X
open Go.RowKit Go.Proofs.YtidlgdpjcognpaaDoorW.PrintWords Go.Proofs.YtidlgdpjcognpaaDoor.P
set_option linter.unusedVariables false
set_option linter.unusedSimpArgs false

/-! ### with one byte another one it is none -/
theorem octP6_inj {u v : Nat} (hu : u < 262144) (hv : v < 262144) (h : octP 6 u = octP 6 v) : u = v := by
  have h1 := octV_octP 6 u 0
  have h2 := octV_octP 6 v 0
  rw [h, h2] at h1
  have e : (8 : Nat) ^ 6 = 262144 := by decide
  rw [e] at h1
  simp only [Nat.mul_zero, Nat.zero_add, Option.some.injEq] at h1
  rw [Nat.mod_eq_of_lt hu, Nat.mod_eq_of_lt hv] at h1
  exact h1.symm
theorem ckOf_inj {s t : Int} (hs : 0 ≤ s ∧ s < 262144) (ht : 0 ≤ t ∧ t < 262144) (h : ckOf s = ckOf t) : s = t := by
  unfold ckOf at h
  have h1 := (List.append_inj h (by rw [List.length_map, List.length_map, octP_length, octP_length])).1
  have h2 : octP 6 s.toNat = octP 6 t.toNat := List.map_inj_right (f := fun b : UInt8 => (b.toNat : Int)) (fun x y e => UInt8.toNat_inj.1 (by omega)) |>.1 h1
  have := octP6_inj (by omega) (by omega) h2
  omega
structure Good (b : List Int) (A B : List Int) : Prop where
  eq : b = A ++ (ckOf (ckSum A B) ++ B)
  la : A.length = 148
  lb : B.length = 356
  ba : Bytes A
  bb : Bytes B
theorem good_of_lay {a0 : ByteArray} {a1 a2 : Int} {a3 : ByteArray} {b : List Int} (h : layR a0 a1 a2 a3 = (b, true)) : ∃ A B, Good b A B := by
  obtain ⟨n, hn2, hm, hn, hb⟩ := layR_true h
  rw [layB_canon a0 a1 n a3 hm.2.1 hm.2.2.2.1] at hb
  exact ⟨_, _, hb, canonA_length _ _ _ hm.2.1 (by rw [modeR_size]; omega) (by rw [size_mk, octP_length]; omega), canonB_length ⟨#[signR a1]⟩ a3 (Nat.le_refl 1) hm.2.2.2.1, canonA_Bytes _ _ _, canonB_Bytes _ _⟩
theorem good_turned {b A B A' B' : List Int} {i : Nat} {v : Int} (hg : Good b A B) (hg' : Good (b.set i v) A' B') (hi : i < b.length) : v = b[i] := by
  obtain ⟨e, la, lb, ba, bb⟩ := hg
  obtain ⟨e', la', lb', ba', bb'⟩ := hg'
  have lc := ckOf_length (ckSum A B)
  have lc' := ckOf_length (ckSum A' B')
  have r := ckSum_range A B ba bb (by omega)
  have r' := ckSum_range A' B' ba' bb' (by omega)
  generalize hC : ckOf (ckSum A B) = C at *
  generalize hC' : ckOf (ckSum A' B') = C' at *
  have inj : C = C' → ckSum A B = ckSum A' B' := fun h => ckOf_inj r r' (by rw [hC, hC', h])
  subst e
  rw [List.set_append] at e'
  by_cases h1 : i < A.length
  · rw [if_pos h1] at e'
    obtain ⟨eA, eY⟩ := List.append_inj e' (by rw [List.length_set]; omega)
    obtain ⟨eC, eB⟩ := List.append_inj eY (by omega)
    have hs := inj eC
    rw [← eA, ← eB] at hs
    unfold ckSum at hs
    rw [sum_set A i v h1] at hs
    rw [List.getElem_append_left h1]
    omega
  · rw [if_neg h1, List.set_append] at e'
    by_cases h2 : i - A.length < C.length
    · rw [if_pos h2] at e'
      obtain ⟨eA, eY⟩ := List.append_inj e' (by omega)
      obtain ⟨eC, eB⟩ := List.append_inj eY (by rw [List.length_set]; omega)
      have : C = C.set (i - A.length) v := by
        rw [eC, ← hC, ← hC', eA, eB]
      rw [List.getElem_append_right (by omega), List.getElem_append_left h2]
      have h3 : C[i - A.length]? = (C.set (i - A.length) v)[i - A.length]? := by rw [← this]
      rw [List.getElem?_set_self h2, List.getElem?_eq_getElem h2] at h3
      exact (Option.some.inj h3).symm
    · rw [if_neg h2] at e'
      obtain ⟨eA, eY⟩ := List.append_inj e' (by omega)
      obtain ⟨eC, eB⟩ := List.append_inj eY (by omega)
      have h3 : i - A.length - C.length < B.length := by
        simp only [List.length_append] at hi
        omega
      have hs := inj eC
      rw [← eA, ← eB] at hs
      unfold ckSum at hs
      rw [sum_set B _ v h3] at hs
      rw [List.getElem_append_right (by omega), List.getElem_append_right (by omega)]
      omega
theorem turned_none {a0 : ByteArray} {a1 a2 : Int} {a3 : ByteArray} {b : List Int} {i : Nat} {v : Int} (h : layR a0 a1 a2 a3 = (b, true)) (hi : i < b.length) (hv : v ≠ b[i]) : (readR (b.set i v)).2.2.2.2 = false := by
  rcases readR_or (b.set i v) with e | ⟨c0, c1, c2, c3, e⟩
  · rw [e]
  · obtain ⟨A, B, hg⟩ := good_of_lay h
    obtain ⟨A', B', hg'⟩ := good_of_lay (readR_true e)
    exact absurd (good_turned hg hg' hi) hv
set_option maxHeartbeats 1600000 in
theorem headBack_pure (a0 : ByteArray) (a1 a2 : Int) (a3 : ByteArray) (a4 a5 : Int) (h2 : a2 < 9223372036854775808) : Ev (fun k => hogsheadlaw12_HeadBack.f k a0 a1 a2 a3 a4 a5) true := by
  obtain ⟨K0, k0⟩ := awake12_eq
  have hj : ∀ b, Ev (fun k => hogsheadlaw12_HeadBack.j0 k a0 a1 a2 a3 a4 a5 b) true := by
    intro b
    cases b with
    | true =>
      refine ⟨K0 + 1, fun k hk => ?_⟩
      obtain ⟨k, rfl⟩ : ∃ m, k = m + 1 := ⟨k - 1, by omega⟩
      have k0 := k0 k (by omega)
      simp only at k0
      simp only [hogsheadlaw12_HeadBack.j0]
      rw [if_pos trivial, k0]
      rfl
    | false =>
      rcases hl : layR a0 a1 a2 a3 with ⟨b, ok⟩
      cases ok with
      | false =>
        have hb : b = [] := by
          unfold layR at hl
          split at hl
          · cases (Prod.mk.inj hl).2
          · exact ((Prod.mk.inj hl).1).symm
        refine ⟨K0 + 3, fun k hk => ?_⟩
        obtain ⟨k, rfl⟩ : ∃ m, k = m + 1 + 1 := ⟨k - 2, by omega⟩
        have k0 := k0 (k + 1) (by omega)
        simp only at k0
        simp only [hogsheadlaw12_HeadBack.j0]
        rw [if_neg (by simp), lay_eq _ _ _ _ _ h2, hl, hb]
        simp only [Option.bind_some]
        rw [if_neg (by simp), if_pos (by rfl), k0]
        rfl
      | true =>
        have hbb : Bytes b := by have := layR_Bytes a0 a1 a2 a3; rw [hl] at this; exact this
        obtain ⟨hr, _, hlen, _, _⟩ := readR_of_lay hl
        obtain ⟨K1, k1⟩ := read_eq b hbb
        rw [hr] at k1
        obtain ⟨i, hi, hi2⟩ := low_nat a4 512 (by omega) (by omega)
        obtain ⟨j, hj, hj2⟩ := low_nat a5 255 (by omega) (by omega)
        have hil : i < b.length := by omega
        obtain ⟨c, hc⟩ := Int.eq_ofNat_of_zero_le (hbb _ (List.getElem_mem hil)).1
        have hc256 : c < 256 := by have := (hbb _ (List.getElem_mem hil)).2; omega
        obtain ⟨x1, x2, x3⟩ := xor_other c (1 + j) hc256 (by omega) (by omega)
        have ht := turned_none hl hil (v := bits .xor .u8 (c : Int) ((1 + j : Nat) : Int)) (by rw [hc]; exact x1)
        obtain ⟨K2, k2⟩ := read_eq (b.set i (bits .xor .u8 (c : Int) ((1 + j : Nat) : Int))) (hbb.set _ _ ⟨x2, x3⟩)
        obtain ⟨K3, k3⟩ := read_eq (b.take 511) (hbb.take _)
        have hs : readR (b.take 511) = (⟨#[]⟩, 0, 0, ⟨#[]⟩, false) := by
          unfold readR
          rw [if_neg (fun x => by have := x.1; rw [List.length_take] at this; omega)]
        rw [hs] at k3
        have EW := Aside0.mk (wrap_one j hj2)
        refine ⟨K0 + K1 + K2 + K3 + 2, fun k hk => ?_⟩
        obtain ⟨k, rfl⟩ : ∃ m, k = m + 1 + 1 := ⟨k - 2, by omega⟩
        have k0 := k0 (k + 1) (by omega)
        have k1 := k1 (k + 1) (by omega)
        have k2 := k2 (k + 1) (by omega)
        have k3 := k3 (k + 1) (by omega)
        simp only at k0 k1 k2 k3
        simp only [hogsheadlaw12_HeadBack.j0]
        rw [if_neg (by simp), lay_eq _ _ _ _ _ h2, hl]
        simp only [Option.bind_some, if_true, List.nil_append]
        rw [if_pos (by omega), k1]
        simp only [Option.bind_some]
        rw [if_pos (by simp only [List.length_nil]; omega), hi]
        simp only [Option.bind_some]
        rw [if_pos (by omega), if_pos (by omega), hj]
        simp only [Option.bind_some]
        rw [rd_getElem b i hil, hc, EW.out, Int.toNat_natCast, k2]
        simp only [Option.bind_some]
        rw [if_pos (by omega), k3]
        simp only [Option.bind_some, if_true, ht, k0]
        rfl
  unfold hogsheadlaw12_HeadBack.f
  by_cases g : (a0.size : Int) > 120
  · simp only [if_pos g]; exact hj _
  · simp only [if_neg g]; exact hj _

/-! ### HeadSizes -/
theorem may_f (n : Int) : MayR ⟨#[102]⟩ 2 n ⟨#[]⟩ := by
  unfold MayR
  refine ⟨by decide, by decide, by decide, by decide, by decide, by decide, by decide, by decide, Or.inr (by decide)⟩
theorem headSizes_pure (a0 a1 : Int) : Ev (fun k => hogsheadlaw12_HeadSizes.f k a0 a1) true := by
  obtain ⟨K0, k0⟩ := awake12_eq
  obtain ⟨i, hi, hi2⟩ := low_nat a0 8589934592 (by omega) (by omega)
  obtain ⟨j, hj, hj2⟩ := low_nat a1 1000 (by omega) (by omega)
  have W1 : Aside0 (wrap64 (8589934592 + (j : Int)) = 8589934592 + (j : Int)) := ⟨by unfold wrap64; omega⟩
  have W2 : Aside0 (wrap64 (1 + (i : Int)) = 1 + (i : Int)) := ⟨by unfold wrap64; omega⟩
  have l1 : layR ⟨#[102]⟩ 2 (i : Int) ⟨#[]⟩ = (layB ⟨#[102]⟩ 2 i ⟨#[]⟩, true) := by
    unfold layR
    rw [if_pos ⟨may_f i, by omega, by omega⟩, Int.toNat_natCast]
  have l2 : layR ⟨#[102]⟩ 2 (8589934592 + (j : Int)) ⟨#[]⟩ = ([], false) := by
    unfold layR
    rw [if_neg (fun x => by have := x.2.2; omega)]
  have l3 : layR ⟨#[102]⟩ 1 (1 + (i : Int)) ⟨#[]⟩ = ([], false) := by
    unfold layR
    rw [if_neg (fun x => by have := x.1.2.2.2.2.2.2.2.2; omega)]
  have l4 : layR ⟨#[102]⟩ 4 (1 + (i : Int)) ⟨#[116]⟩ = ([], false) := by
    unfold layR
    rw [if_neg (fun x => by have := x.1.2.2.2.2.2.2.2.2; omega)]
  obtain ⟨hr, _, hlen, _, _⟩ := readR_of_lay l1
  have hbb : Bytes (layB ⟨#[102]⟩ 2 i ⟨#[]⟩) := by have := layR_Bytes ⟨#[102]⟩ 2 i ⟨#[]⟩; rw [l1] at this; exact this
  generalize layB ⟨#[102]⟩ 2 i ⟨#[]⟩ = b at *
  obtain ⟨K1, k1⟩ := read_eq b hbb
  rw [hr] at k1
  refine ⟨K0 + K1 + 2, fun k hk => ?_⟩
  obtain ⟨k, rfl⟩ : ∃ m, k = m + 1 := ⟨k - 1, by omega⟩
  have k0 := k0 k (by omega)
  have k1 := k1 k (by omega)
  simp only at k0 k1
  show hogsheadlaw12_HeadSizes.f _ a0 a1 = _
  unfold hogsheadlaw12_HeadSizes.f
  have hlen2 : ((b.length : Int) != 512) = false := by rw [hlen]; rfl
  rw [hi]
  rw [Option.bind_some]
  rw [lay_eq _ _ _ _ _ (by omega), l1, hj]
  rw [Option.bind_some]
  rw [Option.bind_some, W1.out, W2.out, lay_eq _ _ _ _ _ (by omega), l2]
  rw [Option.bind_some]
  rw [lay_eq _ _ _ _ _ (by omega), l3]
  rw [Option.bind_some]
  rw [lay_eq _ _ _ _ _ (by omega), l4]
  rw [Option.bind_some, if_pos rfl, if_neg (by simp), if_neg (by simp), if_neg (by simp), hlen2]
  simp only [hogsheadlaw12_HeadSizes.j0]
  rw [if_neg (by simp), k1]
  rw [Option.bind_some, if_pos rfl, if_pos rfl, if_pos rfl, k0, Option.bind_some]
end Go.Proofs.YtidlgdpjcognpaaDoor.X
