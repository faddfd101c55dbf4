/- Contracts of functions of the program that are walked by hand: the digest of a text. -/
import Derived.Test.YtidlgdpjcognpaaDoorPf13
import Derived.Test.YtidlgdpjcognpaaDoorPf17
import Derived.Test.YtidlgdpjcognpaaDoorPf14
import Derived.Test.YtidlgdpjcognpaaDoorPf18
import Derived.Outline
import Derived.WalkLawsBesides
import Derived.WalkSpells
import Derived.LoopTactic
import Derived.Lib.Hide
namespace Go.Proofs.YtidlgdpjcognpaaDoor.X
open Go.RowKit Go.Proofs.YtidlgdpjcognpaaDoorW.PrintWords Go.Proofs.YtidlgdpjcognpaaDoor.P
set_option linter.unusedVariables false
set_option linter.unusedSimpArgs false

/-- The bytes of a text, read in the row that a conversion makes. -/
theorem bytes_C (w : World) (e : TypeId) (s : ByteArray) (hs : s.size ≤ 9223372036854775807) : (Kd.int .u8).C (Lib.bytesWorld w e s) (some ⟨w.heap.size, 0, none⟩) s.size (bytesOf s) := by
  refine Kd.C_of_reads (d := (0 : Int)) (h1 := fun _ => rfl) ⟨bytesOf_length s, hs, fun _ => ⟨_, rfl, fun j hj => ?_⟩⟩
  have ha : (⟨w.heap.size, 0, none⟩ : Addr).add j = ⟨w.heap.size, j, none⟩ := add_plain _ _
  rw [ha, Lib.bytesWorld_cell w e s j hj]
  congr 2
  unfold bytesOf
  simp only [List.getD_eq_getElem?_getD, List.getElem?_map]
  have hl : j < s.data.toList.length := by rw [data_length]; exact hj
  rw [List.getElem?_eq_getElem hl]
  rfl
theorem bytes_below (w : World) (e : TypeId) (s : ByteArray) : Below w.heap.size w (Lib.bytesWorld w e s) :=
  ⟨rfl, rfl, rfl, by rw [Lib.bytesWorld_size]; omega, fun i hi => Lib.bytesWorld_at_old w e s i hi⟩

/-- A slice of one slice, in a new block. -/
theorem one_C {W : World} {A : Option Addr} {c e t : Nat} {xs : List Int} (h : (Kd.int .u8).C W A xs.length xs) (hc : xs.length ≤ c) :
    (Kd.slice e (Kd.int .u8)).C (W.alloc (.cells #[.slice A xs.length c] t)) (some ⟨W.heap.size, 0, none⟩) [xs].length [xs] := by
  refine ⟨rfl, by simp, fun _ => ⟨_, rfl, fun j p hj => ?_⟩⟩
  cases j with
  | succ j => simp at hj
  | zero =>
    obtain rfl : xs = p := by simpa using hj
    refine ⟨[.slice A xs.length c], rfl, ⟨A, c, rfl, hc, Kd.C_below h ((Below.refl _ _).alloc (Nat.le_refl _) _)⟩, fun i u hu => ?_⟩
    cases i with
    | succ i => simp at hu
    | zero =>
      obtain rfl : Value.slice A xs.length c = u := by simpa using hu
      simp [Addr.add, World.cell?, World.alloc, -World.alloc_eq]

/-! ### sum_Digest -/
def sum_Digest.f (k : Nat) (a0 : ByteArray) : Option ByteArray := if a0.size ≤ 9223372036854775807 then (sum_Of.f k [bytesOf a0]).bind fun t => sum_Hex.f t else none
theorem sum_Digest.mono : ∀ a0 k, LeO (sum_Digest.f k a0) (sum_Digest.f (k + 1) a0) := by
  intro a0 k
  unfold sum_Digest.f
  exact LeO.ite (LeO.bind (sum_Of.mono _ _) (fun _ => LeO.refl _)) (LeO.none _)
set_option maxHeartbeats 1600000 in
set_option maxRecDepth 100000 in
theorem sum_Digest.calls (k : Nat) (a0 : ByteArray) (r : ByteArray) (w : World) (hT : Aside0 (Tabs w)) (h : sum_Digest.f k a0 = some r) :
    Calls Tryd.prog 19 #[.string a0] w fun e w' => e = .returned (.string r) ∧ Below w.heap.size w w' := by
  unfold sum_Digest.f at h
  split at h
  · rename_i hs
    replace h := Option.bind_eq_some_iff.mp h
    obtain ⟨t, h1, h2⟩ := h
    have H1 := Aside0.mk h1
    have H2 := Aside0.mk h2
    have HS := Aside0.mk hs
    clear h1 h2 hs
    have hcv := Lib.run_convert_string_bytes (P := Tryd.prog) w 9 22 5 a0 Tryd.underlying9 Tryd.underlying22 Tryd.underlying5
    have HB := Aside0.mk (bytes_below w 5 a0)
    have HC := Aside0.mk (bytes_C w 5 a0 HS.out)
    have HG := Aside0.mk (grownCap_ge w a0.size 0 5)
    go_enter Tryd.func19, Tryd.ntmps19
    go_wp2_with fail
    generalize Lib.bytesWorld w 5 a0 = W1 at *
    clear hcv
    have hl := bytesOf_length a0
    generalize grownCap w a0.size 0 5 = cp at *
    rw [← hl] at HC HG ⊢
    have HL := Aside0.mk hl
    clear hl
    have HC2 := Aside0.mk (one_C (e := 5) (t := 22) HC.out HG.out)
    refine (sum_Of.calls k _ 1 [bytesOf a0] t _ HC2.out (Nat.le_refl _) H1.out).mono ?_
    rintro e w2 ⟨rfl, ⟨n2, rfl⟩⟩
    have HB2 := Aside0.mk (pw_below_drewN (below_alloc HB.out (.cells #[.slice (some ⟨w.heap.size, 0, none⟩) (bytesOf a0).length cp] 22)) n2)
    go_wp2_with fail
    refine (sum_Hex.calls t r _ ⟨Tabs.below hT.out HB2.out⟩ H2.out).mono ?_
    rintro e w3 ⟨rfl, hb3⟩
    have HB3 := Aside0.mk (below_step HB2.out hb3)
    clear hb3
    go_wp2
    go_ret
    exact ⟨rfl, HB3.out⟩
  · cases h

/-! ### hogsheadref6_Digest -/
def hogsheadref6_Digest.f (k : Nat) (a0 : ByteArray) : Option ByteArray := if a0.size ≤ 9223372036854775807 then (hogsheadref6_Of.f k (bytesOf a0)).bind fun t => hogsheadref6_Hex.f k t else none
theorem hogsheadref6_Digest.mono : ∀ a0 k, LeO (hogsheadref6_Digest.f k a0) (hogsheadref6_Digest.f (k + 1) a0) := by
  intro a0 k
  unfold hogsheadref6_Digest.f
  exact LeO.ite (LeO.bind (hogsheadref6_Of.mono _ _) (fun _ => hogsheadref6_Hex.mono _ _)) (LeO.none _)
set_option maxHeartbeats 1600000 in
set_option maxRecDepth 100000 in
theorem hogsheadref6_Digest.calls (k : Nat) (a0 : ByteArray) (r : ByteArray) (w : World) (h : hogsheadref6_Digest.f k a0 = some r) :
    Calls Tryd.prog 20 #[.string a0] w fun e w' => e = .returned (.string r) ∧ Below w.heap.size w w' := by
  unfold hogsheadref6_Digest.f at h
  split at h
  · rename_i hs
    replace h := Option.bind_eq_some_iff.mp h
    obtain ⟨t, h1, h2⟩ := h
    have H1 := Aside0.mk h1
    have H2 := Aside0.mk h2
    have HS := Aside0.mk hs
    clear h1 h2 hs
    have hcv := Lib.run_convert_string_bytes (P := Tryd.prog) w 9 22 5 a0 Tryd.underlying9 Tryd.underlying22 Tryd.underlying5
    have HB := Aside0.mk (bytes_below w 5 a0)
    have HC := Aside0.mk (bytes_C w 5 a0 HS.out)
    have HG := Aside0.mk (grownCap_ge w a0.size 0 5)
    go_enter Tryd.func20, Tryd.ntmps20
    go_wp2_with fail
    generalize Lib.bytesWorld w 5 a0 = W1 at *
    clear hcv
    have hl := bytesOf_length a0
    generalize grownCap w a0.size 0 5 = cp at *
    rw [← hl] at HC HG ⊢
    have HL := Aside0.mk hl
    clear hl
    refine (hogsheadref6_Of.calls k _ _ (bytesOf a0) t _ HC.out HG.out H1.out).mono ?_
    rintro e w2 ⟨rfl, ⟨n2, rfl⟩⟩
    have HB2 := Aside0.mk (pw_below_drewN HB.out n2)
    go_wp2_with fail
    refine (hogsheadref6_Hex.calls k t r _ H2.out).mono ?_
    rintro e w3 ⟨rfl, hb3⟩
    have HB3 := Aside0.mk (below_step HB2.out hb3)
    clear hb3
    go_wp2
    go_ret
    exact ⟨rfl, HB3.out⟩
  · cases h

end Go.Proofs.YtidlgdpjcognpaaDoor.X
