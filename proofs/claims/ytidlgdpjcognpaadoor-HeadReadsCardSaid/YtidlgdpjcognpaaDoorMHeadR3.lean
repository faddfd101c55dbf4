/- Part 3 of what is behind the rows RowHeadReads: XPN, Pf44, Pf45, Pf32, Pf46, Pf33, XPQ, X3, XLC. -/
import Derived.Test.YtidlgdpjcognpaaDoorMHeadR2
import Derived.Outline
import Derived.WalkLawsBesides
import Derived.WalkSpells
import Derived.LoopTactic
import Derived.Laws.NewBlocks
import Derived.Lib.Hide
import Derived.Deep.RegionWith
/- A header's bytes in parts: what is read of what was laid. -/
namespace Go.Proofs.YtidlgdpjcognpaaDoor.X
open Go.RowKit Go.Proofs.YtidlgdpjcognpaaDoorW.PrintWords Go.Proofs.YtidlgdpjcognpaaDoor.P
set_option linter.unusedVariables false
set_option linter.unusedSimpArgs false

def padS (n : Nat) (s : ByteArray) : List Int := bytesOf s ++ List.replicate (n - s.size) 0
theorem padS_length {n : Nat} {s : ByteArray} (h : s.size ≤ n) : (padS n s).length = n := by
  rw [padS, List.length_append, bytesOf_length, List.length_replicate]; omega
theorem putB_pad (A : List Int) (m n p : Nat) (s : ByteArray) (hA : A.length = p) (h1 : s.size ≤ n) (h2 : n ≤ m) :
    putB (A ++ List.replicate m 0) p s = (A ++ padS n s) ++ List.replicate (m - n) 0 := by
  subst hA
  unfold putB padS
  have e1 : (A ++ List.replicate m (0 : Int)).take A.length = A := by rw [List.take_append_of_le_length (Nat.le_refl _), List.take_length]
  have e2 : (A ++ List.replicate m (0 : Int)).drop (A.length + s.size) = List.replicate (m - s.size) 0 := by
    rw [List.drop_append, List.drop_eq_nil_of_le (by omega), List.nil_append, List.drop_replicate]
    congr 1
    omega
  rw [e1, e2]
  have e3 : List.replicate (m - s.size) (0 : Int) = List.replicate (n - s.size) 0 ++ List.replicate (m - n) 0 := by
    rw [List.replicate_append_replicate]
    congr 1
    omega
  rw [e3]
  simp only [List.append_assoc]
theorem putB_mid (A B C : List Int) (p : Nat) (s : ByteArray) (hA : A.length = p) (hB : B.length = s.size) : putB (A ++ (B ++ C)) p s = A ++ (bytesOf s ++ C) := by
  subst hA
  unfold putB
  have e1 : (A ++ (B ++ C)).take A.length = A := by rw [List.take_append_of_le_length (Nat.le_refl _), List.take_length]
  have e2 : (A ++ (B ++ C)).drop (A.length + s.size) = C := by
    rw [← List.append_assoc, List.drop_append, List.drop_eq_nil_of_le (by rw [List.length_append]; omega), List.nil_append, List.length_append]
    have : A.length + s.size - (A.length + B.length) = 0 := by omega
    rw [this, List.drop_zero]
  rw [e1, e2, List.append_assoc]
def z7 : ByteArray := ⟨#[48, 48, 48, 48, 48, 48, 48]⟩
def z11 : ByteArray := ⟨#[48, 48, 48, 48, 48, 48, 48, 48, 48, 48, 48]⟩
def bl8 : ByteArray := ⟨#[32, 32, 32, 32, 32, 32, 32, 32]⟩
def us8 : ByteArray := ⟨#[117, 115, 116, 97, 114, 0, 48, 48]⟩
/-- what stands ahead of the sum -/
def canonA (name md dg : ByteArray) : List Int := padS 100 name ++ (padS 8 md ++ (padS 8 z7 ++ (padS 8 z7 ++ (padS 12 dg ++ padS 12 z11))))
/-- what stands behind it -/
def canonB (sg link : ByteArray) : List Int := padS 1 sg ++ (padS 100 link ++ (padS 8 us8 ++ List.replicate 247 0))
theorem canonA_length (name md dg : ByteArray) (h0 : name.size ≤ 100) (h1 : md.size ≤ 8) (h2 : dg.size ≤ 12) : (canonA name md dg).length = 148 := by
  unfold canonA
  simp only [List.length_append]
  rw [padS_length h0, padS_length h1, padS_length h2, padS_length (show z7.size ≤ 8 by decide), padS_length (show z11.size ≤ 12 by decide)]
theorem canonB_length (sg link : ByteArray) (h0 : sg.size ≤ 1) (h1 : link.size ≤ 100) : (canonB sg link).length = 356 := by
  unfold canonB
  simp only [List.length_append, List.length_replicate]
  rw [padS_length h0, padS_length h1, padS_length (show us8.size ≤ 8 by decide)]
theorem laid0_canon (name md dg sg link : ByteArray) (h0 : name.size ≤ 100) (h1 : md.size ≤ 8) (h2 : dg.size ≤ 12) (h3 : sg.size ≤ 1) (h4 : link.size ≤ 100) :
    laid0 name md dg sg link = canonA name md dg ++ (bytesOf bl8 ++ canonB sg link) := by
  have s7 : z7.size ≤ 8 := by decide
  have s11 : z11.size ≤ 12 := by decide
  have s8 : bl8.size ≤ 8 := by decide
  have su : us8.size ≤ 8 := by decide
  have l0 := padS_length h0
  have l1 := padS_length h1
  have l2 := padS_length h2
  have l3 := padS_length h3
  have l4 := padS_length h4
  have l7 := padS_length s7
  have l11 := padS_length s11
  have l8 := padS_length s8
  have lu := padS_length su
  unfold laid0
  rw [show (⟨#[48, 48, 48, 48, 48, 48, 48]⟩ : ByteArray) = z7 from rfl, show (⟨#[48, 48, 48, 48, 48, 48, 48, 48, 48, 48, 48]⟩ : ByteArray) = z11 from rfl, show (⟨#[32, 32, 32, 32, 32, 32, 32, 32]⟩ : ByteArray) = bl8 from rfl, show (⟨#[117, 115, 116, 97, 114, 0, 48, 48]⟩ : ByteArray) = us8 from rfl]
  have ez : zeros512 = [] ++ List.replicate 512 0 := rfl
  rw [ez, putB_pad [] 512 100 0 name rfl h0 (by omega)]
  rw [putB_pad _ _ 8 100 md (by rw [List.length_append, l0]; rfl) h1 (by omega)]
  rw [putB_pad _ _ 8 108 z7 (by simp only [List.length_append, l0, l1]; rfl) s7 (by omega)]
  rw [putB_pad _ _ 8 116 z7 (by simp only [List.length_append, l0, l1, l7]; rfl) s7 (by omega)]
  rw [putB_pad _ _ 12 124 dg (by simp only [List.length_append, l0, l1, l7]; rfl) h2 (by omega)]
  rw [putB_pad _ _ 12 136 z11 (by simp only [List.length_append, l0, l1, l7, l2]; rfl) s11 (by omega)]
  rw [putB_pad _ _ 8 148 bl8 (by simp only [List.length_append, l0, l1, l7, l2, l11]; rfl) s8 (by omega)]
  rw [putB_pad _ _ 1 156 sg (by simp only [List.length_append, l0, l1, l7, l2, l11, l8]; rfl) h3 (by omega)]
  rw [putB_pad _ _ 100 157 link (by simp only [List.length_append, l0, l1, l7, l2, l11, l8, l3]; rfl) h4 (by omega)]
  rw [putB_pad _ _ 8 257 us8 (by simp only [List.length_append, l0, l1, l7, l2, l11, l8, l3, l4]; rfl) su (by omega)]
  have e8 : padS 8 bl8 = bytesOf bl8 := by
    rw [padS, show 8 - bl8.size = 0 from rfl]; simp
  rw [e8]
  unfold canonA canonB
  simp only [List.append_assoc, List.nil_append]

/-! ### the sum -/
theorem padS_Bytes (n : Nat) (s : ByteArray) : Bytes (padS n s) := (bytesOf_Bytes s).append (rep_Bytes _)
theorem canonA_Bytes (a b c : ByteArray) : Bytes (canonA a b c) := (padS_Bytes _ _).append <| (padS_Bytes _ _).append <| (padS_Bytes _ _).append <| (padS_Bytes _ _).append <| (padS_Bytes _ _).append (padS_Bytes _ _)
theorem canonB_Bytes (a b : ByteArray) : Bytes (canonB a b) := (padS_Bytes _ _).append <| (padS_Bytes _ _).append <| (padS_Bytes _ _).append (rep_Bytes _)
theorem Bytes.sum {xs : List Int} (h : Bytes xs) : 0 ≤ xs.sum ∧ xs.sum ≤ 255 * (xs.length : Int) := by
  induction xs with
  | nil => simp
  | cons x xs ih =>
    have h1 := h x List.mem_cons_self
    have h2 := ih (fun y hy => h y (List.mem_cons_of_mem _ hy))
    rw [List.sum_cons, List.length_cons]
    omega
theorem fold_sum : ∀ (xs : List Int) (s : Int), Bytes xs → 0 ≤ s → s + 255 * (xs.length : Int) ≤ 1000000000 → xs.foldl (fun s x => wrap64 (s + wrap64 x)) s = s + xs.sum := by
  intro xs
  induction xs with
  | nil => intro s _ _ _; simp
  | cons x xs ih =>
    intro s hb h0 h1
    have hx := hb x List.mem_cons_self
    rw [List.length_cons] at h1
    have e : wrap64 (s + wrap64 x) = s + x := by clear ih hb; unfold wrap64; omega
    rw [List.foldl_cons, e, ih (s + x) (fun y hy => hb y (List.mem_cons_of_mem _ hy)) (by clear ih hb e; omega) (by clear ih hb e; omega), List.sum_cons]
    clear ih hb e
    omega
theorem sumB_eq (xs : List Int) (hb : Bytes xs) (hn : xs.length ≤ 1000) : sumB xs = xs.sum := by
  have := fold_sum xs 0 hb (by omega) (by omega)
  rw [Int.zero_add] at this
  exact this

/-- the digits of a sum -/
def ckOf (s : Int) : List Int := (octP 6 s.toNat).map (fun b => (b.toNat : Int)) ++ [0, 32]
theorem ckOf_length (s : Int) : (ckOf s).length = 8 := by rw [ckOf, List.length_append, List.length_map, octP_length]; rfl
/-- the sum of what stands around it, and blanks -/
def ckSum (a b : List Int) : Int := a.sum + 256 + b.sum
theorem ckSum_range (a b : List Int) (ha : Bytes a) (hb : Bytes b) (hl : a.length + b.length ≤ 600) : 0 ≤ ckSum a b ∧ ckSum a b < 262144 := by
  have := ha.sum
  have := hb.sum
  unfold ckSum
  omega
theorem layB_canon (a0 : ByteArray) (a1 : Int) (n : Nat) (a3 : ByteArray) (h0 : a0.size ≤ 100) (h3 : a3.size ≤ 100) :
    layB a0 a1 n a3 = canonA a0 (modeR a1) ⟨(octP 11 n).toArray⟩ ++ (ckOf (ckSum (canonA a0 (modeR a1) ⟨(octP 11 n).toArray⟩) (canonB ⟨#[signR a1]⟩ a3)) ++ canonB ⟨#[signR a1]⟩ a3) := by
  unfold layB laidR
  have s1 : (modeR a1).size ≤ 8 := by rw [modeR_size]; omega
  have s2 : (⟨(octP 11 n).toArray⟩ : ByteArray).size ≤ 12 := by rw [size_mk, octP_length]; omega
  have s3 : (⟨#[signR a1]⟩ : ByteArray).size ≤ 1 := Nat.le_refl 1
  rw [laid0_canon _ _ _ _ _ h0 s1 s2 s3 h3]
  have lA := canonA_length a0 (modeR a1) ⟨(octP 11 n).toArray⟩ h0 s1 s2
  have lB := canonB_length ⟨#[signR a1]⟩ a3 s3 h3
  have bA := canonA_Bytes a0 (modeR a1) ⟨(octP 11 n).toArray⟩
  have bB := canonB_Bytes ⟨#[signR a1]⟩ a3
  generalize canonA a0 (modeR a1) ⟨(octP 11 n).toArray⟩ = A at *
  generalize canonB ⟨#[signR a1]⟩ a3 = B at *
  have l8 : (bytesOf bl8).length = 8 := rfl
  have hs : sumB (A ++ (bytesOf bl8 ++ B)) = ckSum A B := by
    rw [sumB_eq _ (bA.append ((bytesOf_Bytes _).append bB)) (by simp only [List.length_append, lA, lB, l8]; omega), List.sum_append, List.sum_append]
    have : (bytesOf bl8).sum = 256 := by decide
    rw [this]
    unfold ckSum
    omega
  have hr := ckSum_range A B bA bB (by omega)
  rw [hs]
  have ho : (octR (ckSum A B) 6).1 = ⟨(octP 6 (ckSum A B).toNat).toArray⟩ := by
    unfold octR
    rw [if_pos ⟨hr.1, by omega, by omega, by have : (8 : Nat) ^ (6 : Int).toNat = 262144 := rfl; omega⟩]
    rfl
  rw [ho]
  have e : (⟨(octP 6 (ckSum A B).toNat).toArray⟩ : ByteArray) ++ (⟨#[0, 32]⟩ : ByteArray) = ⟨(octP 6 (ckSum A B).toNat ++ [0, 32]).toArray⟩ := append_mk _ [0, 32]
  rw [e, putB_mid A (bytesOf bl8) B 148 _ lA (by rw [size_mk, List.length_append, octP_length, l8]; rfl)]
  congr 2
theorem layB_length (a0 : ByteArray) (a1 : Int) (n : Nat) (a3 : ByteArray) (h0 : a0.size ≤ 100) (h3 : a3.size ≤ 100) : (layB a0 a1 n a3).length = 512 := by
  rw [layB_canon a0 a1 n a3 h0 h3, List.length_append, List.length_append, ckOf_length, canonA_length _ _ _ h0 (by rw [modeR_size]; omega) (by rw [size_mk, octP_length]; omega), canonB_length ⟨#[signR a1]⟩ a3 (Nat.le_refl 1) h3]
theorem ckOf_Bytes (s : Int) : Bytes (ckOf s) := by
  refine Bytes.append (fun x hx => ?_) (by intro x hx; simp at hx; omega)
  obtain ⟨c, _, rfl⟩ := List.mem_map.1 hx
  have := c.toNat_lt
  omega
theorem layB_Bytes (a0 : ByteArray) (a1 : Int) (n : Nat) (a3 : ByteArray) (h0 : a0.size ≤ 100) (h3 : a3.size ≤ 100) : Bytes (layB a0 a1 n a3) := by
  rw [layB_canon a0 a1 n a3 h0 h3]
  exact (canonA_Bytes _ _ _).append ((ckOf_Bytes _).append (canonB_Bytes _ _))
theorem layR_length (a0 : ByteArray) (a1 a2 : Int) (a3 : ByteArray) : (layR a0 a1 a2 a3).1.length ≤ 512 := by
  unfold layR
  split
  · rename_i h
    exact Nat.le_of_eq (layB_length _ _ _ _ h.1.2.1 h.1.2.2.2.1)
  · simp

/-! ### HeadLays -/
theorem headLays_pure (a0 : ByteArray) (a1 a2 : Int) (a3 : ByteArray) (h2 : a2 < 9223372036854775808) : Ev (fun k => hogsheadlaw12_HeadLays.f k a0 a1 a2 a3) true := by
  obtain ⟨K0, k0⟩ := awake12_eq
  obtain ⟨K1, k1⟩ := ref_lay_eq a0 a1 a2 a3 h2
  have hl := layR_length a0 a1 a2 a3
  obtain ⟨K2, k2⟩ := sameBytes_eq (layR a0 a1 a2 a3).1 (layR a0 a1 a2 a3).1 (by omega)
  obtain ⟨K3, k3⟩ := overBytes_eq (layR a0 a1 a2 a3).1 (by omega)
  have hj : ∀ b, Ev (fun k => hogsheadlaw12_HeadLays.j0 k a0 a1 a2 a3 b) true := by
    intro b
    refine ⟨K0 + K1 + K2 + K3 + 3, fun k hk => ?_⟩
    obtain ⟨k, rfl⟩ : ∃ m, k = m + 1 + 1 + 1 := ⟨k - 3, by omega⟩
    have k01 := k0 (k + 1) (by omega)
    have k02 := k0 (k + 1 + 1) (by omega)
    have k1 := k1 (k + 1 + 1) (by omega)
    have k21 := k2 (k + 1 + 1) (by omega)
    have k22 := k2 (k + 1) (by omega)
    have k3 := k3 (k + 1) (by omega)
    simp only at k01 k02 k1 k21 k22 k3
    simp only [hogsheadlaw12_HeadLays.j0]
    cases b with
    | true => rw [if_pos rfl, k02]; rfl
    | false =>
      rw [if_neg (by simp), lay_eq _ _ _ _ _ h2, k1]
      simp only [Option.bind_some]
      rw [k21]
      simp only [Option.bind_some, decide_true, if_true, beq_self_eq_true]
      simp only [hogsheadlaw12_HeadLays.j1]
      rw [k3, lay_eq _ _ _ _ _ h2]
      simp only [Option.bind_some, if_true]
      rw [k22, k01]
      simp
  unfold hogsheadlaw12_HeadLays.f
  by_cases g : (a0.size : Int) > 120
  · simp only [if_pos g]; exact hj _
  · simp only [if_neg g]; exact hj _
end Go.Proofs.YtidlgdpjcognpaaDoor.X

-- written by xprint.py (the kit's print.py, turned), out of the translation; Lean checks it.
namespace Go.Proofs.YtidlgdpjcognpaaDoor.P
open Go.Proofs.YtidlgdpjcognpaaDoor.X
open Go.RowKit Go.Proofs.YtidlgdpjcognpaaDoorW.PrintWords Go.Proofs.YtidlgdpjcognpaaDoorW.PrintLast Go.Proofs.YtidlgdpjcognpaaDoorW.PrintMore
attribute [local go_sem] max2_int min2_int max_two min_two max_three min_three max_four min_four   -- for this text's walks alone
set_option linter.unusedVariables false
set_option linter.unusedSimpArgs false

/-! ### head_field: function 44 -/
def head_field.f (l0 : List Int) : Option (ByteArray) := (strings_Cut.f (strOfNums l0) (⟨#[0]⟩ : ByteArray)).bind fun bt201 => (some bt201.1)
set_option maxHeartbeats 8000000 in
set_option maxRecDepth 100000 in
theorem head_field.calls (A0 : Option Addr) (c0 : Nat) (l0 : List Int) (r : ByteArray) (w : World) (hT : Aside0 (Tabs w)) (hr0 : Kd.C (Kd.int .u8) w A0 l0.length l0) (hc0 : l0.length ≤ c0) (h : head_field.f l0 = some r) :
    Calls Tryd.prog 44 #[.slice A0 l0.length c0] w fun e w' => e = .returned (.string r) ∧ Drawn0 w w' := by
  have HR0 := Aside0.mk hr0
  have HC0 := Aside0.mk hc0
  clear hr0 hc0
  have H : ((strings_Cut.f (strOfNums l0) (⟨#[0]⟩ : ByteArray)).bind fun bt201 => (some bt201.1)) = some r := h
  clear h
  replace H := Option.bind_eq_some_iff.mp H
  obtain ⟨⟨t201, t202, t203⟩, A20, H⟩ := H
  replace H : (some t201) = some r := H
  have A2 := Aside0.mk A20
  clear A20
  obtain rfl := Option.some.inj H
  have hcv3 := Kd.C_string (P := Tryd.prog) (A := A0) (c := c0) Tryd.underlying22 Tryd.underlying5 Tryd.underlying9 HR0.out
  have hcvq4 := C_string_any (P := Tryd.prog) (A := A0) (c := c0) Tryd.underlying22 Tryd.underlying5 Tryd.underlying9 HR0.out
  go_enter Tryd.func44, Tryd.ntmps44
  go_wp2_with (first | ((with_reducible refine gate_callee (f := 56) rfl ?_); refine goesL_ (some 9) rfl rfl Tryd.func56 (by kernel_rfl) rfl #[.string (strOfNums l0), .string (⟨#[0]⟩ : ByteArray)] rfl (by (try simp only [List.map_toArray, List.map_cons, List.map_nil]); first | done | rfl | (simp only [List.length_drop, List.length_take]; rfl)) ?_; (with_reducible refine (strings_Cut.calls (strOfNums l0) (⟨#[0]⟩ : ByteArray) t201 t202 t203 _ ?side1 A2.out).mono ?_); (case side1 => exact ⟨Tabs.drawn hT.out (by repeat (first | exact Drawn0.refl _ | apply Drawn0.step))⟩); rintro e w' ⟨rfl, ⟨nd, rfl⟩⟩; refine ⟨_, rfl, ?_⟩))
  go_ret
  exact ⟨by first | rfl | (simp; done) | (simp [*]; done), by repeat (first | exact Drawn0.refl _ | apply Drawn0.step)⟩

end Go.Proofs.YtidlgdpjcognpaaDoor.P

-- written by xprint.py (the kit's print.py, turned), out of the translation; Lean checks it.
namespace Go.Proofs.YtidlgdpjcognpaaDoor.P
open Go.Proofs.YtidlgdpjcognpaaDoor.X
open Go.RowKit Go.Proofs.YtidlgdpjcognpaaDoorW.PrintWords Go.Proofs.YtidlgdpjcognpaaDoorW.PrintLast Go.Proofs.YtidlgdpjcognpaaDoorW.PrintMore
attribute [local go_sem] max2_int min2_int max_two min_two max_three min_three max_four min_four   -- for this text's walks alone
set_option linter.unusedVariables false
set_option linter.unusedSimpArgs false

/-! ### head_kind: function 45 -/
def head_kind.f (a0 : Int) (a1 : ByteArray) : Option (Int) := if a0 = 53 then (some 1) else (if a0 = 50 then (some 4) else (if a0 = 120 then (some 5) else (if a1.toList = ([48, 48, 48, 48, 55, 53, 53] : List UInt8) then (some 3) else (some 2))))
set_option maxHeartbeats 8000000 in
set_option maxRecDepth 100000 in
theorem head_kind.calls (a0 : Int) (a1 : ByteArray) (r : Int) (w : World) (h : head_kind.f a0 a1 = some r) :
    Calls Tryd.prog 45 #[.int .u8 a0, .string a1] w fun e w' => e = .returned (.int .i64 r) ∧ Drawn0 w w' := by
  have H : (if a0 = 53 then (some 1) else (if a0 = 50 then (some 4) else (if a0 = 120 then (some 5) else (if a1.toList = ([48, 48, 48, 48, 55, 53, 53] : List UInt8) then (some 3) else (some 2))))) = some r := h
  clear h
  by_cases c3 : a0 = 53
  · rw [if_pos c3] at H
    have c3b0 : (a0 == 53) = true := beq_iff_eq.mpr c3
    have c3b1 : (a0 != 53) = false := bne_eq_false_iff_eq.mpr c3
    clear c3
    obtain rfl := Option.some.inj H
    go_enter Tryd.func45, Tryd.ntmps45
    go_wp2
    go_ret
    exact ⟨by first | rfl | (simp; done) | (simp [*]; done), by repeat (first | exact Drawn0.refl _ | apply Drawn0.step)⟩
  · rw [if_neg c3] at H
    have c3b0 : (a0 == 53) = false := beq_eq_false_iff_ne.mpr c3
    have c3b1 : (a0 != 53) = true := bne_iff_ne.mpr c3
    by_cases c4 : a0 = 50
    · rw [if_pos c4] at H
      have c4b0 : (a0 == 50) = true := beq_iff_eq.mpr c4
      have c4b1 : (a0 != 50) = false := bne_eq_false_iff_eq.mpr c4
      clear c4
      obtain rfl := Option.some.inj H
      go_enter Tryd.func45, Tryd.ntmps45
      go_wp2
      go_ret
      exact ⟨by first | rfl | (simp; done) | (simp [*]; done), by repeat (first | exact Drawn0.refl _ | apply Drawn0.step)⟩
    · rw [if_neg c4] at H
      have c4b0 : (a0 == 50) = false := beq_eq_false_iff_ne.mpr c4
      have c4b1 : (a0 != 50) = true := bne_iff_ne.mpr c4
      by_cases c5 : a0 = 120
      · rw [if_pos c5] at H
        have c5b0 : (a0 == 120) = true := beq_iff_eq.mpr c5
        have c5b1 : (a0 != 120) = false := bne_eq_false_iff_eq.mpr c5
        clear c5
        obtain rfl := Option.some.inj H
        go_enter Tryd.func45, Tryd.ntmps45
        go_wp2
        go_ret
        exact ⟨by first | rfl | (simp; done) | (simp [*]; done), by repeat (first | exact Drawn0.refl _ | apply Drawn0.step)⟩
      · rw [if_neg c5] at H
        have c5b0 : (a0 == 120) = false := beq_eq_false_iff_ne.mpr c5
        have c5b1 : (a0 != 120) = true := bne_iff_ne.mpr c5
        by_cases c6 : a1.toList = ([48, 48, 48, 48, 55, 53, 53] : List UInt8)
        · rw [if_pos c6] at H
          have c6b0 : (a1.toList == ([48, 48, 48, 48, 55, 53, 53] : List UInt8)) = true := beq_iff_eq.mpr c6
          have c6b1 : (a1.toList != ([48, 48, 48, 48, 55, 53, 53] : List UInt8)) = false := bne_eq_false_iff_eq.mpr c6
          clear c6
          obtain rfl := Option.some.inj H
          go_enter Tryd.func45, Tryd.ntmps45
          go_wp2
          go_ret
          exact ⟨by first | rfl | (simp; done) | (simp [*]; done), by repeat (first | exact Drawn0.refl _ | apply Drawn0.step)⟩
        · rw [if_neg c6] at H
          have c6b0 : (a1.toList == ([48, 48, 48, 48, 55, 53, 53] : List UInt8)) = false := beq_eq_false_iff_ne.mpr c6
          have c6b1 : (a1.toList != ([48, 48, 48, 48, 55, 53, 53] : List UInt8)) = true := bne_iff_ne.mpr c6
          obtain rfl := Option.some.inj H
          go_enter Tryd.func45, Tryd.ntmps45
          go_wp2
          go_ret
          exact ⟨by first | rfl | (simp; done) | (simp [*]; done), by repeat (first | exact Drawn0.refl _ | apply Drawn0.step)⟩

end Go.Proofs.YtidlgdpjcognpaaDoor.P

-- written by xprint.py (the kit's print.py, turned), out of the translation; Lean checks it.
namespace Go.Proofs.YtidlgdpjcognpaaDoor.P
open Go.Proofs.YtidlgdpjcognpaaDoor.X
open Go.RowKit Go.Proofs.YtidlgdpjcognpaaDoorW.PrintWords Go.Proofs.YtidlgdpjcognpaaDoorW.PrintLast Go.Proofs.YtidlgdpjcognpaaDoorW.PrintMore
attribute [local go_sem] max2_int min2_int max_two min_two max_three min_three max_four min_four   -- for this text's walks alone
set_option linter.unusedVariables false
set_option linter.unusedSimpArgs false

/-! ### head_Read: function 32 -/
def head_Read.f (k : Nat) (l0 : List Int) : Option (ByteArray × Int × Int × ByteArray × Bool) := if (l0.length : Int) = 512 then (if 100 ≤ (l0.length : Int) then ((head_field.f (l0.take 100)).bind fun t205 => (if 157 ≤ 257 then (if 257 ≤ (l0.length : Int) then ((head_field.f ((l0.take 257).drop 157)).bind fun t207 => (if 156 < (l0.length : Int) then (if 100 ≤ 108 then (if 108 ≤ (l0.length : Int) then ((head_field.f ((l0.take 108).drop 100)).bind fun t210 => ((head_kind.f (rd l0 156) t210).bind fun t211 => (if 124 ≤ 136 then (if 136 ≤ (l0.length : Int) then ((head_field.f ((l0.take 136).drop 124)).bind fun t213 => ((head_OfOctal.f k t213).bind fun bt214 => ((head_Lay.f k t205 t211 bt214.1 t207).bind fun bt216 => (if bt216.2 = true then (if (strOfNums bt216.1).toList = (strOfNums l0).toList then (some (t205, t211, bt214.1, t207, true)) else (some ((⟨#[]⟩ : ByteArray), 0, 0, (⟨#[]⟩ : ByteArray), false))) else (some ((⟨#[]⟩ : ByteArray), 0, 0, (⟨#[]⟩ : ByteArray), false)))))) else (none)) else (none)))) else (none)) else (none)) else (none))) else (none)) else (none))) else (none)) else (some ((⟨#[]⟩ : ByteArray), 0, 0, (⟨#[]⟩ : ByteArray), false))
theorem head_Read.mono : ∀ a0 k, LeO (head_Read.f k a0) (head_Read.f (k + 1) a0) := by
  intro a0 k
  unfold head_Read.f
  repeat' first
      | (with_reducible exact head_Lay.mono _ _ _ _ _)
      | (with_reducible exact head_OfOctal.mono _ _)
      | (with_reducible exact LeO.refl _)
      | (with_reducible exact LeO.none _)
      | (with_reducible refine LeO.ite ?_ ?_)
      | (with_reducible refine LeO.bind ?_ (fun _ => ?_))
      | exact head_Lay.mono _ _ _ _ _
      | exact head_OfOctal.mono _ _
      | exact LeO.none _
      | refine LeO.ite ?_ ?_
      | refine LeO.bind ?_ (fun _ => ?_)
set_option maxHeartbeats 8000000 in
set_option maxRecDepth 100000 in
theorem head_Read.calls (k : Nat) (A0 : Option Addr) (c0 : Nat) (l0 : List Int) (r1 : ByteArray) (r2 : Int) (r3 : Int) (r4 : ByteArray) (r5 : Bool) (w : World) (hT : Aside0 (Tabs w)) (hr0 : Kd.C (Kd.int .u8) w A0 l0.length l0) (hc0 : l0.length ≤ c0) (h : head_Read.f k l0 = some (r1, r2, r3, r4, r5)) :
    Calls Tryd.prog 32 #[.slice A0 l0.length c0] w fun e w' => e = .returned (.tuple #[.string r1, .int .i64 r2, .int .i64 r3, .string r4, .bool r5]) ∧ Below w.heap.size w w' := by
  have HR0 := Aside0.mk hr0
  have HC0 := Aside0.mk hc0
  clear hr0 hc0
  have HB := Aside0.mk (Below.refl w.heap.size w)
  have H : (if (l0.length : Int) = 512 then (if 100 ≤ (l0.length : Int) then ((head_field.f (l0.take 100)).bind fun t205 => (if 157 ≤ 257 then (if 257 ≤ (l0.length : Int) then ((head_field.f ((l0.take 257).drop 157)).bind fun t207 => (if 156 < (l0.length : Int) then (if 100 ≤ 108 then (if 108 ≤ (l0.length : Int) then ((head_field.f ((l0.take 108).drop 100)).bind fun t210 => ((head_kind.f (rd l0 156) t210).bind fun t211 => (if 124 ≤ 136 then (if 136 ≤ (l0.length : Int) then ((head_field.f ((l0.take 136).drop 124)).bind fun t213 => ((head_OfOctal.f k t213).bind fun bt214 => ((head_Lay.f k t205 t211 bt214.1 t207).bind fun bt216 => (if bt216.2 = true then (if (strOfNums bt216.1).toList = (strOfNums l0).toList then (some (t205, t211, bt214.1, t207, true)) else (some ((⟨#[]⟩ : ByteArray), 0, 0, (⟨#[]⟩ : ByteArray), false))) else (some ((⟨#[]⟩ : ByteArray), 0, 0, (⟨#[]⟩ : ByteArray), false)))))) else (none)) else (none)))) else (none)) else (none)) else (none))) else (none)) else (none))) else (none)) else (some ((⟨#[]⟩ : ByteArray), 0, 0, (⟨#[]⟩ : ByteArray), false))) = some (r1, r2, r3, r4, r5) := h
  clear h
  by_cases c2 : (l0.length : Int) = 512
  · rw [if_pos c2] at H
    have c2b0 : ((l0.length : Int) == 512) = true := beq_iff_eq.mpr c2
    have c2b1 : ((l0.length : Int) != 512) = false := bne_eq_false_iff_eq.mpr c2
    clear c2
    by_cases c3 : 100 ≤ (l0.length : Int)
    · rw [if_pos c3] at H
      have c3b0 := eq_true c3
      have c3b1 : decide (100 ≤ (l0.length : Int)) = true := decide_eq_true c3
      clear c3
      replace H := Option.bind_eq_some_iff.mp H
      obtain ⟨t205, A40, H⟩ := H
      replace H : (if 157 ≤ 257 then (if 257 ≤ (l0.length : Int) then ((head_field.f ((l0.take 257).drop 157)).bind fun t207 => (if 156 < (l0.length : Int) then (if 100 ≤ 108 then (if 108 ≤ (l0.length : Int) then ((head_field.f ((l0.take 108).drop 100)).bind fun t210 => ((head_kind.f (rd l0 156) t210).bind fun t211 => (if 124 ≤ 136 then (if 136 ≤ (l0.length : Int) then ((head_field.f ((l0.take 136).drop 124)).bind fun t213 => ((head_OfOctal.f k t213).bind fun bt214 => ((head_Lay.f k t205 t211 bt214.1 t207).bind fun bt216 => (if bt216.2 = true then (if (strOfNums bt216.1).toList = (strOfNums l0).toList then (some (t205, t211, bt214.1, t207, true)) else (some ((⟨#[]⟩ : ByteArray), 0, 0, (⟨#[]⟩ : ByteArray), false))) else (some ((⟨#[]⟩ : ByteArray), 0, 0, (⟨#[]⟩ : ByteArray), false)))))) else (none)) else (none)))) else (none)) else (none)) else (none))) else (none)) else (none)) = some (r1, r2, r3, r4, r5) := H
      have A4 := Aside0.mk A40
      clear A40
      by_cases c5 : 157 ≤ 257
      · rw [if_pos c5] at H
        have c5b0 := eq_true c5
        have c5b1 : decide (157 ≤ 257) = true := decide_eq_true c5
        clear c5
        by_cases c6 : 257 ≤ (l0.length : Int)
        · rw [if_pos c6] at H
          have c6b0 := eq_true c6
          have c6b1 : decide (257 ≤ (l0.length : Int)) = true := decide_eq_true c6
          clear c6
          replace H := Option.bind_eq_some_iff.mp H
          obtain ⟨t207, A70, H⟩ := H
          replace H : (if 156 < (l0.length : Int) then (if 100 ≤ 108 then (if 108 ≤ (l0.length : Int) then ((head_field.f ((l0.take 108).drop 100)).bind fun t210 => ((head_kind.f (rd l0 156) t210).bind fun t211 => (if 124 ≤ 136 then (if 136 ≤ (l0.length : Int) then ((head_field.f ((l0.take 136).drop 124)).bind fun t213 => ((head_OfOctal.f k t213).bind fun bt214 => ((head_Lay.f k t205 t211 bt214.1 t207).bind fun bt216 => (if bt216.2 = true then (if (strOfNums bt216.1).toList = (strOfNums l0).toList then (some (t205, t211, bt214.1, t207, true)) else (some ((⟨#[]⟩ : ByteArray), 0, 0, (⟨#[]⟩ : ByteArray), false))) else (some ((⟨#[]⟩ : ByteArray), 0, 0, (⟨#[]⟩ : ByteArray), false)))))) else (none)) else (none)))) else (none)) else (none)) else (none)) = some (r1, r2, r3, r4, r5) := H
          have A7 := Aside0.mk A70
          clear A70
          by_cases c8 : 156 < (l0.length : Int)
          · rw [if_pos c8] at H
            have c8b0 : decide (156 < (l0.length : Int)) = true := decide_eq_true c8
            have c8b1 : decide (156 < l0.length) = true := decide_eq_true (by omega)
            clear c8
            by_cases c9 : 100 ≤ 108
            · rw [if_pos c9] at H
              have c9b0 := eq_true c9
              have c9b1 : decide (100 ≤ 108) = true := decide_eq_true c9
              clear c9
              by_cases c10 : 108 ≤ (l0.length : Int)
              · rw [if_pos c10] at H
                have c10b0 := eq_true c10
                have c10b1 : decide (108 ≤ (l0.length : Int)) = true := decide_eq_true c10
                clear c10
                replace H := Option.bind_eq_some_iff.mp H
                obtain ⟨t210, A110, H⟩ := H
                replace H : ((head_kind.f (rd l0 156) t210).bind fun t211 => (if 124 ≤ 136 then (if 136 ≤ (l0.length : Int) then ((head_field.f ((l0.take 136).drop 124)).bind fun t213 => ((head_OfOctal.f k t213).bind fun bt214 => ((head_Lay.f k t205 t211 bt214.1 t207).bind fun bt216 => (if bt216.2 = true then (if (strOfNums bt216.1).toList = (strOfNums l0).toList then (some (t205, t211, bt214.1, t207, true)) else (some ((⟨#[]⟩ : ByteArray), 0, 0, (⟨#[]⟩ : ByteArray), false))) else (some ((⟨#[]⟩ : ByteArray), 0, 0, (⟨#[]⟩ : ByteArray), false)))))) else (none)) else (none))) = some (r1, r2, r3, r4, r5) := H
                have A11 := Aside0.mk A110
                clear A110
                replace H := Option.bind_eq_some_iff.mp H
                obtain ⟨t211, A120, H⟩ := H
                replace H : (if 124 ≤ 136 then (if 136 ≤ (l0.length : Int) then ((head_field.f ((l0.take 136).drop 124)).bind fun t213 => ((head_OfOctal.f k t213).bind fun bt214 => ((head_Lay.f k t205 t211 bt214.1 t207).bind fun bt216 => (if bt216.2 = true then (if (strOfNums bt216.1).toList = (strOfNums l0).toList then (some (t205, t211, bt214.1, t207, true)) else (some ((⟨#[]⟩ : ByteArray), 0, 0, (⟨#[]⟩ : ByteArray), false))) else (some ((⟨#[]⟩ : ByteArray), 0, 0, (⟨#[]⟩ : ByteArray), false)))))) else (none)) else (none)) = some (r1, r2, r3, r4, r5) := H
                have A12 := Aside0.mk A120
                clear A120
                by_cases c13 : 124 ≤ 136
                · rw [if_pos c13] at H
                  have c13b0 := eq_true c13
                  have c13b1 : decide (124 ≤ 136) = true := decide_eq_true c13
                  clear c13
                  by_cases c14 : 136 ≤ (l0.length : Int)
                  · rw [if_pos c14] at H
                    have c14b0 := eq_true c14
                    have c14b1 : decide (136 ≤ (l0.length : Int)) = true := decide_eq_true c14
                    clear c14
                    replace H := Option.bind_eq_some_iff.mp H
                    obtain ⟨t213, A150, H⟩ := H
                    replace H : ((head_OfOctal.f k t213).bind fun bt214 => ((head_Lay.f k t205 t211 bt214.1 t207).bind fun bt216 => (if bt216.2 = true then (if (strOfNums bt216.1).toList = (strOfNums l0).toList then (some (t205, t211, bt214.1, t207, true)) else (some ((⟨#[]⟩ : ByteArray), 0, 0, (⟨#[]⟩ : ByteArray), false))) else (some ((⟨#[]⟩ : ByteArray), 0, 0, (⟨#[]⟩ : ByteArray), false))))) = some (r1, r2, r3, r4, r5) := H
                    have A15 := Aside0.mk A150
                    clear A150
                    replace H := Option.bind_eq_some_iff.mp H
                    obtain ⟨⟨t214, t215⟩, A160, H⟩ := H
                    replace H : ((head_Lay.f k t205 t211 t214 t207).bind fun bt216 => (if bt216.2 = true then (if (strOfNums bt216.1).toList = (strOfNums l0).toList then (some (t205, t211, t214, t207, true)) else (some ((⟨#[]⟩ : ByteArray), 0, 0, (⟨#[]⟩ : ByteArray), false))) else (some ((⟨#[]⟩ : ByteArray), 0, 0, (⟨#[]⟩ : ByteArray), false)))) = some (r1, r2, r3, r4, r5) := H
                    have A16 := Aside0.mk A160
                    clear A160
                    replace H := Option.bind_eq_some_iff.mp H
                    obtain ⟨⟨t216, t217⟩, A170, H⟩ := H
                    replace H : (if t217 = true then (if (strOfNums t216).toList = (strOfNums l0).toList then (some (t205, t211, t214, t207, true)) else (some ((⟨#[]⟩ : ByteArray), 0, 0, (⟨#[]⟩ : ByteArray), false))) else (some ((⟨#[]⟩ : ByteArray), 0, 0, (⟨#[]⟩ : ByteArray), false))) = some (r1, r2, r3, r4, r5) := H
                    have A17 := Aside0.mk A170
                    clear A170
                    by_cases c18 : t217 = true
                    · subst c18
                      have H1 : (if (strOfNums t216).toList = (strOfNums l0).toList then (some (t205, t211, t214, t207, true)) else (some ((⟨#[]⟩ : ByteArray), 0, 0, (⟨#[]⟩ : ByteArray), false))) = some (r1, r2, r3, r4, r5) := by rw [if_pos rfl] at H; exact H
                      clear H
                      have H := H1
                      clear H1
                      by_cases c19 : (strOfNums t216).toList = (strOfNums l0).toList
                      · rw [if_pos c19] at H
                        have c19b0 : ((strOfNums t216).toList == (strOfNums l0).toList) = true := beq_iff_eq.mpr c19
                        have c19b1 : ((strOfNums t216).toList != (strOfNums l0).toList) = false := bne_eq_false_iff_eq.mpr c19
                        clear c19
                        simp only [Option.some.injEq, Prod.mk.injEq] at H
                        obtain ⟨rfl, rfl, rfl, rfl, rfl⟩ := H
                        obtain ⟨i020, hi020, _, hsz20, _⟩ := info_parts info5
                        obtain ⟨hcut20, hA20, hC20⟩ := print_take_of (P := Tryd.prog) (Value.int .u8) 0 22 5 .i64 Tryd.underlying22 hi020 hsz20 A0 c0 l0 100 (by omega) (of_decide_eq_true (by first | (with_reducible assumption) | assumption)) HC0.out
                        have HR204 := Aside0.mk (Kd.C_of_reads (h1 := fun _ => rfl) (hA20 _ (Kd.reads_of_C HR0.out)))
                        have HC204 := Aside0.mk hC20
                        clear hA20 hC20 hi020 hsz20
                        obtain ⟨i021, hi021, _, hsz21, _⟩ := info_parts info5
                        obtain ⟨A21, hcut21, hA21, hC21⟩ := print_mid_of (P := Tryd.prog) (Value.int .u8) 0 22 5 .i64 .i64 Tryd.underlying22 hi021 hsz21 A0 c0 l0 157 257 (by omega) (by first | omega | exact of_decide_eq_true (by first | (with_reducible assumption) | assumption)) (of_decide_eq_true (by first | (with_reducible assumption) | assumption)) HC0.out
                        have HR206 := Aside0.mk (Kd.C_of_reads (h1 := fun _ => rfl) (hA21 _ (Kd.reads_of_C HR0.out)))
                        have HC206 := Aside0.mk hC21
                        clear hA21 hC21 hi021 hsz21
                        go_enter Tryd.func32, Tryd.ntmps32
                        go_wp2_with (first | (go_at_call 44; (with_reducible refine (head_field.calls _ _ (l0.take 100) t205 _ ?side1 ?side2 ?side3 A4.out).mono ?_); (case side1 => exact ⟨Tabs.below hT.out (by repeat (first | (with_reducible first | exact HB.out | apply below_alloc | apply pw_below_drewN | apply below_drew1) | exact HB.out))⟩); (case side2 => repeat (first | exact HR204.out | (with_reducible refine Kd.C_alloc ?_ _) | (with_reducible refine Kd.C_drewN ?_ _) | (with_reducible refine Kd.C_drew ?_))); (case side3 => exact HC204.out); rintro e w' ⟨rfl, ⟨nd, rfl⟩⟩; (try first | exact ⟨rfl, _, World.drewN_drewN _ _ _⟩ | exact ⟨rfl, _, Eq.trans (World.drewN_drewN _ _ _) (congrArg (World.drewN _) (Nat.add_assoc _ _ _))⟩)) | (go_at_call 44; (with_reducible refine (head_field.calls _ _ ((l0.take 257).drop 157) t207 _ ?side1 ?side2 ?side3 A7.out).mono ?_); (case side1 => exact ⟨Tabs.below hT.out (by repeat (first | (with_reducible first | exact HB.out | apply below_alloc | apply pw_below_drewN | apply below_drew1) | exact HB.out))⟩); (case side2 => repeat (first | exact HR206.out | (with_reducible refine Kd.C_alloc ?_ _) | (with_reducible refine Kd.C_drewN ?_ _) | (with_reducible refine Kd.C_drew ?_))); (case side3 => exact HC206.out); rintro e w' ⟨rfl, ⟨nd, rfl⟩⟩; (try first | exact ⟨rfl, _, World.drewN_drewN _ _ _⟩ | exact ⟨rfl, _, Eq.trans (World.drewN_drewN _ _ _) (congrArg (World.drewN _) (Nat.add_assoc _ _ _))⟩); have p208 : 0 ≤ (156 : Int) := (by omega); have q208 : 156 < (l0.length : Int) := of_decide_eq_true (by first | (with_reducible assumption) | assumption); obtain ⟨ad208, e208, hx208_0⟩ := Kd.at_int HR0.out 156 p208 q208; cases e208; (try simp only [show (156 : Int).toNat = 156 from rfl, Nat.reduceMul, Nat.reduceEqDiff, Go.Addr.add, ↓reduceIte] at hx208_0); have qi208 : (156 < l0.length) = True := eq_true (by omega); (try rw [show ((156 : Int)).toNat = 156 from rfl] at hx208_0); replace p208 := eq_true p208; replace q208 := eq_true q208; obtain ⟨i022, hi022, _, hsz22, _⟩ := info_parts info5; obtain ⟨A22, hcut22, hA22, hC22⟩ := print_mid_of (P := Tryd.prog) (Value.int .u8) 0 22 5 .i64 .i64 Tryd.underlying22 hi022 hsz22 (some ad208) c0 l0 100 108 (by omega) (by first | omega | exact of_decide_eq_true (by first | (with_reducible assumption) | assumption)) (of_decide_eq_true (by first | (with_reducible assumption) | assumption)) HC0.out; have HR209 := Aside0.mk (Kd.C_of_reads (h1 := fun _ => rfl) (hA22 _ (Kd.reads_of_C HR0.out))); have HC209 := Aside0.mk hC22; clear hA22 hC22 hi022 hsz22) | (go_at_call 44; (with_reducible refine (head_field.calls _ _ ((l0.take 108).drop 100) t210 _ ?side1 ?side2 ?side3 A11.out).mono ?_); (case side1 => exact ⟨Tabs.below hT.out (by repeat (first | (with_reducible first | exact HB.out | apply below_alloc | apply pw_below_drewN | apply below_drew1) | exact HB.out))⟩); (case side2 => repeat (first | exact HR209.out | (with_reducible refine Kd.C_alloc ?_ _) | (with_reducible refine Kd.C_drewN ?_ _) | (with_reducible refine Kd.C_drew ?_))); (case side3 => exact HC209.out); rintro e w' ⟨rfl, ⟨nd, rfl⟩⟩; (try first | exact ⟨rfl, _, World.drewN_drewN _ _ _⟩ | exact ⟨rfl, _, Eq.trans (World.drewN_drewN _ _ _) (congrArg (World.drewN _) (Nat.add_assoc _ _ _))⟩)) | (go_at_call 45; (with_reducible refine (head_kind.calls (rd l0 156) t210 t211 _ A12.out).mono ?_); rintro e w' ⟨rfl, ⟨nd, rfl⟩⟩; (try first | exact ⟨rfl, _, World.drewN_drewN _ _ _⟩ | exact ⟨rfl, _, Eq.trans (World.drewN_drewN _ _ _) (congrArg (World.drewN _) (Nat.add_assoc _ _ _))⟩); obtain ⟨i023, hi023, _, hsz23, _⟩ := info_parts info5; obtain ⟨A23, hcut23, hA23, hC23⟩ := print_mid_of (P := Tryd.prog) (Value.int .u8) 0 22 5 .i64 .i64 Tryd.underlying22 hi023 hsz23 (some ad208) c0 l0 124 136 (by omega) (by first | omega | exact of_decide_eq_true (by first | (with_reducible assumption) | assumption)) (of_decide_eq_true (by first | (with_reducible assumption) | assumption)) HC0.out; have HR212 := Aside0.mk (Kd.C_of_reads (h1 := fun _ => rfl) (hA23 _ (Kd.reads_of_C HR0.out))); have HC212 := Aside0.mk hC23; clear hA23 hC23 hi023 hsz23) | (go_at_call 44; (with_reducible refine (head_field.calls _ _ ((l0.take 136).drop 124) t213 _ ?side1 ?side2 ?side3 A15.out).mono ?_); (case side1 => exact ⟨Tabs.below hT.out (by repeat (first | (with_reducible first | exact HB.out | apply below_alloc | apply pw_below_drewN | apply below_drew1) | exact HB.out))⟩); (case side2 => repeat (first | exact HR212.out | (with_reducible refine Kd.C_alloc ?_ _) | (with_reducible refine Kd.C_drewN ?_ _) | (with_reducible refine Kd.C_drew ?_))); (case side3 => exact HC212.out); rintro e w' ⟨rfl, ⟨nd, rfl⟩⟩; (try first | exact ⟨rfl, _, World.drewN_drewN _ _ _⟩ | exact ⟨rfl, _, Eq.trans (World.drewN_drewN _ _ _) (congrArg (World.drewN _) (Nat.add_assoc _ _ _))⟩)) | (go_at_call 26; (with_reducible refine (head_OfOctal.calls k t213 t214 t215 _ A16.out).mono ?_); rintro e w' ⟨rfl, ⟨nd, rfl⟩⟩; (try first | exact ⟨rfl, _, World.drewN_drewN _ _ _⟩ | exact ⟨rfl, _, Eq.trans (World.drewN_drewN _ _ _) (congrArg (World.drewN _) (Nat.add_assoc _ _ _))⟩)) | (go_at_call 28; (with_reducible refine (head_Lay.calls k t205 t211 t214 t207 t216 true _ ?side1 A17.out).mono ?_); (case side1 => exact ⟨Tabs.below hT.out (by repeat (first | (with_reducible first | exact HB.out | apply below_alloc | apply pw_below_drewN | apply below_drew1) | exact HB.out))⟩); rintro e w24 ⟨v218, rfl, ho0, hb⟩; have n0_ := Aside0.mk (Kd.R_lower ho0 (below_size (by repeat (first | (with_reducible first | exact HB.out | apply below_alloc | apply pw_below_drewN | apply below_drew1) | exact HB.out)))); have n1_ := Aside0.mk (below_step (by repeat (first | (with_reducible first | exact HB.out | apply below_alloc | apply pw_below_drewN | apply below_drew1) | exact HB.out)) hb); clear HB; have HO219 := n0_; have HB := n1_; clear n0_ n1_; (try clear hb); (try clear hb2); (try clear hk); (try clear hi); (try clear ho0); have hcv25 := own_string (P := Tryd.prog) Tryd.underlying22 Tryd.underlying5 Tryd.underlying9 (Kd.own_of_R HO219.out); have hcv26 := Kd.C_string (P := Tryd.prog) (A := (some ad208)) (c := c0) Tryd.underlying22 Tryd.underlying5 Tryd.underlying9 (Kd.C_below HR0.out HB.out); have hcvq27 := C_string_any (P := Tryd.prog) (A := (some ad208)) (c := c0) Tryd.underlying22 Tryd.underlying5 Tryd.underlying9 (Kd.C_below HR0.out HB.out)))
                        repeat (go_quiet (first | (go_at_call 44; refine calls_of_len (n' := (l0.take 100).length) (by first | rfl | simp) ?_; (with_reducible refine (head_field.calls _ _ (l0.take 100) t205 _ ?side1 ?side2 ?side3 A4.out).mono ?_); (case side1 => exact ⟨Tabs.below hT.out (by repeat (first | (with_reducible first | exact HB.out | apply below_alloc | apply pw_below_drewN | apply below_drew1) | exact HB.out))⟩); (case side2 => repeat (first | exact HR204.out | (with_reducible refine Kd.C_alloc ?_ _) | (with_reducible refine Kd.C_drewN ?_ _) | (with_reducible refine Kd.C_drew ?_))); (case side3 => exact HC204.out); rintro e w' ⟨rfl, ⟨nd, rfl⟩⟩; (try first | exact ⟨rfl, _, World.drewN_drewN _ _ _⟩ | exact ⟨rfl, _, Eq.trans (World.drewN_drewN _ _ _) (congrArg (World.drewN _) (Nat.add_assoc _ _ _))⟩); (try clear A4)) | (go_at_call 44; refine calls_of_len (n' := ((l0.take 257).drop 157).length) (by first | rfl | simp) ?_; (with_reducible refine (head_field.calls _ _ ((l0.take 257).drop 157) t207 _ ?side1 ?side2 ?side3 A7.out).mono ?_); (case side1 => exact ⟨Tabs.below hT.out (by repeat (first | (with_reducible first | exact HB.out | apply below_alloc | apply pw_below_drewN | apply below_drew1) | exact HB.out))⟩); (case side2 => repeat (first | exact HR206.out | (with_reducible refine Kd.C_alloc ?_ _) | (with_reducible refine Kd.C_drewN ?_ _) | (with_reducible refine Kd.C_drew ?_))); (case side3 => exact HC206.out); rintro e w' ⟨rfl, ⟨nd, rfl⟩⟩; (try first | exact ⟨rfl, _, World.drewN_drewN _ _ _⟩ | exact ⟨rfl, _, Eq.trans (World.drewN_drewN _ _ _) (congrArg (World.drewN _) (Nat.add_assoc _ _ _))⟩); have p208 : 0 ≤ (156 : Int) := (by omega); have q208 : 156 < (l0.length : Int) := of_decide_eq_true (by first | (with_reducible assumption) | assumption); obtain ⟨ad208, e208, hx208_0⟩ := Kd.at_int HR0.out 156 p208 q208; cases e208; (try simp only [show (156 : Int).toNat = 156 from rfl, Nat.reduceMul, Nat.reduceEqDiff, Go.Addr.add, ↓reduceIte] at hx208_0); have qi208 : (156 < l0.length) = True := eq_true (by omega); (try rw [show ((156 : Int)).toNat = 156 from rfl] at hx208_0); replace p208 := eq_true p208; replace q208 := eq_true q208; obtain ⟨i022, hi022, _, hsz22, _⟩ := info_parts info5; obtain ⟨A22, hcut22, hA22, hC22⟩ := print_mid_of (P := Tryd.prog) (Value.int .u8) 0 22 5 .i64 .i64 Tryd.underlying22 hi022 hsz22 (some ad208) c0 l0 100 108 (by omega) (by first | omega | exact of_decide_eq_true (by first | (with_reducible assumption) | assumption)) (of_decide_eq_true (by first | (with_reducible assumption) | assumption)) HC0.out; have HR209 := Aside0.mk (Kd.C_of_reads (h1 := fun _ => rfl) (hA22 _ (Kd.reads_of_C HR0.out))); have HC209 := Aside0.mk hC22; clear hA22 hC22 hi022 hsz22; (try clear A7)) | (go_at_call 44; refine calls_of_len (n' := ((l0.take 108).drop 100).length) (by first | rfl | simp) ?_; (with_reducible refine (head_field.calls _ _ ((l0.take 108).drop 100) t210 _ ?side1 ?side2 ?side3 A11.out).mono ?_); (case side1 => exact ⟨Tabs.below hT.out (by repeat (first | (with_reducible first | exact HB.out | apply below_alloc | apply pw_below_drewN | apply below_drew1) | exact HB.out))⟩); (case side2 => repeat (first | exact HR209.out | (with_reducible refine Kd.C_alloc ?_ _) | (with_reducible refine Kd.C_drewN ?_ _) | (with_reducible refine Kd.C_drew ?_))); (case side3 => exact HC209.out); rintro e w' ⟨rfl, ⟨nd, rfl⟩⟩; (try first | exact ⟨rfl, _, World.drewN_drewN _ _ _⟩ | exact ⟨rfl, _, Eq.trans (World.drewN_drewN _ _ _) (congrArg (World.drewN _) (Nat.add_assoc _ _ _))⟩); (try clear A11)) | (go_at_call 45; (with_reducible refine (head_kind.calls (rd l0 156) t210 t211 _ A12.out).mono ?_); rintro e w' ⟨rfl, ⟨nd, rfl⟩⟩; (try first | exact ⟨rfl, _, World.drewN_drewN _ _ _⟩ | exact ⟨rfl, _, Eq.trans (World.drewN_drewN _ _ _) (congrArg (World.drewN _) (Nat.add_assoc _ _ _))⟩); obtain ⟨i023, hi023, _, hsz23, _⟩ := info_parts info5; obtain ⟨A23, hcut23, hA23, hC23⟩ := print_mid_of (P := Tryd.prog) (Value.int .u8) 0 22 5 .i64 .i64 Tryd.underlying22 hi023 hsz23 (some ad208) c0 l0 124 136 (by omega) (by first | omega | exact of_decide_eq_true (by first | (with_reducible assumption) | assumption)) (of_decide_eq_true (by first | (with_reducible assumption) | assumption)) HC0.out; have HR212 := Aside0.mk (Kd.C_of_reads (h1 := fun _ => rfl) (hA23 _ (Kd.reads_of_C HR0.out))); have HC212 := Aside0.mk hC23; clear hA23 hC23 hi023 hsz23; (try clear A12)) | (go_at_call 44; refine calls_of_len (n' := ((l0.take 136).drop 124).length) (by first | rfl | simp) ?_; (with_reducible refine (head_field.calls _ _ ((l0.take 136).drop 124) t213 _ ?side1 ?side2 ?side3 A15.out).mono ?_); (case side1 => exact ⟨Tabs.below hT.out (by repeat (first | (with_reducible first | exact HB.out | apply below_alloc | apply pw_below_drewN | apply below_drew1) | exact HB.out))⟩); (case side2 => repeat (first | exact HR212.out | (with_reducible refine Kd.C_alloc ?_ _) | (with_reducible refine Kd.C_drewN ?_ _) | (with_reducible refine Kd.C_drew ?_))); (case side3 => exact HC212.out); rintro e w' ⟨rfl, ⟨nd, rfl⟩⟩; (try first | exact ⟨rfl, _, World.drewN_drewN _ _ _⟩ | exact ⟨rfl, _, Eq.trans (World.drewN_drewN _ _ _) (congrArg (World.drewN _) (Nat.add_assoc _ _ _))⟩); (try clear A15)) | (go_at_call 26; (with_reducible refine (head_OfOctal.calls k t213 t214 t215 _ A16.out).mono ?_); rintro e w' ⟨rfl, ⟨nd, rfl⟩⟩; (try first | exact ⟨rfl, _, World.drewN_drewN _ _ _⟩ | exact ⟨rfl, _, Eq.trans (World.drewN_drewN _ _ _) (congrArg (World.drewN _) (Nat.add_assoc _ _ _))⟩); (try clear A16)) | (go_at_call 28; (with_reducible refine (head_Lay.calls k t205 t211 t214 t207 t216 true _ ?side1 A17.out).mono ?_); (case side1 => exact ⟨Tabs.below hT.out (by repeat (first | (with_reducible first | exact HB.out | apply below_alloc | apply pw_below_drewN | apply below_drew1) | exact HB.out))⟩); rintro e w24 ⟨v218, rfl, ho0, hb⟩; have n0_ := Aside0.mk (Kd.R_lower ho0 (below_size (by repeat (first | (with_reducible first | exact HB.out | apply below_alloc | apply pw_below_drewN | apply below_drew1) | exact HB.out)))); have n1_ := Aside0.mk (below_step (by repeat (first | (with_reducible first | exact HB.out | apply below_alloc | apply pw_below_drewN | apply below_drew1) | exact HB.out)) hb); clear HB; have HO219 := n0_; have HB := n1_; clear n0_ n1_; (try clear hb); (try clear hb2); (try clear hk); (try clear hi); (try clear ho0); have hcv25 := own_string (P := Tryd.prog) Tryd.underlying22 Tryd.underlying5 Tryd.underlying9 (Kd.own_of_R HO219.out); have hcv26 := Kd.C_string (P := Tryd.prog) (A := (some ad208)) (c := c0) Tryd.underlying22 Tryd.underlying5 Tryd.underlying9 (Kd.C_below HR0.out HB.out); have hcvq27 := C_string_any (P := Tryd.prog) (A := (some ad208)) (c := c0) Tryd.underlying22 Tryd.underlying5 Tryd.underlying9 (Kd.C_below HR0.out HB.out); (try clear A17))); try go_wp2_with (first | (go_at_call 44; refine calls_of_len (n' := (l0.take 100).length) (by first | rfl | simp) ?_; (with_reducible refine (head_field.calls _ _ (l0.take 100) t205 _ ?side1 ?side2 ?side3 A4.out).mono ?_); (case side1 => exact ⟨Tabs.below hT.out (by repeat (first | (with_reducible first | exact HB.out | apply below_alloc | apply pw_below_drewN | apply below_drew1) | exact HB.out))⟩); (case side2 => repeat (first | exact HR204.out | (with_reducible refine Kd.C_alloc ?_ _) | (with_reducible refine Kd.C_drewN ?_ _) | (with_reducible refine Kd.C_drew ?_))); (case side3 => exact HC204.out); rintro e w' ⟨rfl, ⟨nd, rfl⟩⟩; (try first | exact ⟨rfl, _, World.drewN_drewN _ _ _⟩ | exact ⟨rfl, _, Eq.trans (World.drewN_drewN _ _ _) (congrArg (World.drewN _) (Nat.add_assoc _ _ _))⟩); (try clear A4)) | (go_at_call 44; refine calls_of_len (n' := ((l0.take 257).drop 157).length) (by first | rfl | simp) ?_; (with_reducible refine (head_field.calls _ _ ((l0.take 257).drop 157) t207 _ ?side1 ?side2 ?side3 A7.out).mono ?_); (case side1 => exact ⟨Tabs.below hT.out (by repeat (first | (with_reducible first | exact HB.out | apply below_alloc | apply pw_below_drewN | apply below_drew1) | exact HB.out))⟩); (case side2 => repeat (first | exact HR206.out | (with_reducible refine Kd.C_alloc ?_ _) | (with_reducible refine Kd.C_drewN ?_ _) | (with_reducible refine Kd.C_drew ?_))); (case side3 => exact HC206.out); rintro e w' ⟨rfl, ⟨nd, rfl⟩⟩; (try first | exact ⟨rfl, _, World.drewN_drewN _ _ _⟩ | exact ⟨rfl, _, Eq.trans (World.drewN_drewN _ _ _) (congrArg (World.drewN _) (Nat.add_assoc _ _ _))⟩); have p208 : 0 ≤ (156 : Int) := (by omega); have q208 : 156 < (l0.length : Int) := of_decide_eq_true (by first | (with_reducible assumption) | assumption); obtain ⟨ad208, e208, hx208_0⟩ := Kd.at_int HR0.out 156 p208 q208; cases e208; (try simp only [show (156 : Int).toNat = 156 from rfl, Nat.reduceMul, Nat.reduceEqDiff, Go.Addr.add, ↓reduceIte] at hx208_0); have qi208 : (156 < l0.length) = True := eq_true (by omega); (try rw [show ((156 : Int)).toNat = 156 from rfl] at hx208_0); replace p208 := eq_true p208; replace q208 := eq_true q208; obtain ⟨i022, hi022, _, hsz22, _⟩ := info_parts info5; obtain ⟨A22, hcut22, hA22, hC22⟩ := print_mid_of (P := Tryd.prog) (Value.int .u8) 0 22 5 .i64 .i64 Tryd.underlying22 hi022 hsz22 (some ad208) c0 l0 100 108 (by omega) (by first | omega | exact of_decide_eq_true (by first | (with_reducible assumption) | assumption)) (of_decide_eq_true (by first | (with_reducible assumption) | assumption)) HC0.out; have HR209 := Aside0.mk (Kd.C_of_reads (h1 := fun _ => rfl) (hA22 _ (Kd.reads_of_C HR0.out))); have HC209 := Aside0.mk hC22; clear hA22 hC22 hi022 hsz22; (try clear A7)) | (go_at_call 44; refine calls_of_len (n' := ((l0.take 108).drop 100).length) (by first | rfl | simp) ?_; (with_reducible refine (head_field.calls _ _ ((l0.take 108).drop 100) t210 _ ?side1 ?side2 ?side3 A11.out).mono ?_); (case side1 => exact ⟨Tabs.below hT.out (by repeat (first | (with_reducible first | exact HB.out | apply below_alloc | apply pw_below_drewN | apply below_drew1) | exact HB.out))⟩); (case side2 => repeat (first | exact HR209.out | (with_reducible refine Kd.C_alloc ?_ _) | (with_reducible refine Kd.C_drewN ?_ _) | (with_reducible refine Kd.C_drew ?_))); (case side3 => exact HC209.out); rintro e w' ⟨rfl, ⟨nd, rfl⟩⟩; (try first | exact ⟨rfl, _, World.drewN_drewN _ _ _⟩ | exact ⟨rfl, _, Eq.trans (World.drewN_drewN _ _ _) (congrArg (World.drewN _) (Nat.add_assoc _ _ _))⟩); (try clear A11)) | (go_at_call 45; (with_reducible refine (head_kind.calls (rd l0 156) t210 t211 _ A12.out).mono ?_); rintro e w' ⟨rfl, ⟨nd, rfl⟩⟩; (try first | exact ⟨rfl, _, World.drewN_drewN _ _ _⟩ | exact ⟨rfl, _, Eq.trans (World.drewN_drewN _ _ _) (congrArg (World.drewN _) (Nat.add_assoc _ _ _))⟩); obtain ⟨i023, hi023, _, hsz23, _⟩ := info_parts info5; obtain ⟨A23, hcut23, hA23, hC23⟩ := print_mid_of (P := Tryd.prog) (Value.int .u8) 0 22 5 .i64 .i64 Tryd.underlying22 hi023 hsz23 (some ad208) c0 l0 124 136 (by omega) (by first | omega | exact of_decide_eq_true (by first | (with_reducible assumption) | assumption)) (of_decide_eq_true (by first | (with_reducible assumption) | assumption)) HC0.out; have HR212 := Aside0.mk (Kd.C_of_reads (h1 := fun _ => rfl) (hA23 _ (Kd.reads_of_C HR0.out))); have HC212 := Aside0.mk hC23; clear hA23 hC23 hi023 hsz23; (try clear A12)) | (go_at_call 44; refine calls_of_len (n' := ((l0.take 136).drop 124).length) (by first | rfl | simp) ?_; (with_reducible refine (head_field.calls _ _ ((l0.take 136).drop 124) t213 _ ?side1 ?side2 ?side3 A15.out).mono ?_); (case side1 => exact ⟨Tabs.below hT.out (by repeat (first | (with_reducible first | exact HB.out | apply below_alloc | apply pw_below_drewN | apply below_drew1) | exact HB.out))⟩); (case side2 => repeat (first | exact HR212.out | (with_reducible refine Kd.C_alloc ?_ _) | (with_reducible refine Kd.C_drewN ?_ _) | (with_reducible refine Kd.C_drew ?_))); (case side3 => exact HC212.out); rintro e w' ⟨rfl, ⟨nd, rfl⟩⟩; (try first | exact ⟨rfl, _, World.drewN_drewN _ _ _⟩ | exact ⟨rfl, _, Eq.trans (World.drewN_drewN _ _ _) (congrArg (World.drewN _) (Nat.add_assoc _ _ _))⟩); (try clear A15)) | (go_at_call 26; (with_reducible refine (head_OfOctal.calls k t213 t214 t215 _ A16.out).mono ?_); rintro e w' ⟨rfl, ⟨nd, rfl⟩⟩; (try first | exact ⟨rfl, _, World.drewN_drewN _ _ _⟩ | exact ⟨rfl, _, Eq.trans (World.drewN_drewN _ _ _) (congrArg (World.drewN _) (Nat.add_assoc _ _ _))⟩); (try clear A16)) | (go_at_call 28; (with_reducible refine (head_Lay.calls k t205 t211 t214 t207 t216 true _ ?side1 A17.out).mono ?_); (case side1 => exact ⟨Tabs.below hT.out (by repeat (first | (with_reducible first | exact HB.out | apply below_alloc | apply pw_below_drewN | apply below_drew1) | exact HB.out))⟩); rintro e w24 ⟨v218, rfl, ho0, hb⟩; have n0_ := Aside0.mk (Kd.R_lower ho0 (below_size (by repeat (first | (with_reducible first | exact HB.out | apply below_alloc | apply pw_below_drewN | apply below_drew1) | exact HB.out)))); have n1_ := Aside0.mk (below_step (by repeat (first | (with_reducible first | exact HB.out | apply below_alloc | apply pw_below_drewN | apply below_drew1) | exact HB.out)) hb); clear HB; have HO219 := n0_; have HB := n1_; clear n0_ n1_; (try clear hb); (try clear hb2); (try clear hk); (try clear hi); (try clear ho0); have hcv25 := own_string (P := Tryd.prog) Tryd.underlying22 Tryd.underlying5 Tryd.underlying9 (Kd.own_of_R HO219.out); have hcv26 := Kd.C_string (P := Tryd.prog) (A := (some ad208)) (c := c0) Tryd.underlying22 Tryd.underlying5 Tryd.underlying9 (Kd.C_below HR0.out HB.out); have hcvq27 := C_string_any (P := Tryd.prog) (A := (some ad208)) (c := c0) Tryd.underlying22 Tryd.underlying5 Tryd.underlying9 (Kd.C_below HR0.out HB.out); (try clear A17))))
                        refine bodyPost_ret (results_list (rs := [.tmp 2, .tmp 3, .tmp 4, .tmp 5, .tmp 6]) rfl (by simp) (.tmp (.tmp (.tmp (.tmp (.tmp .nil)))))) rfl ?_
                        exact ⟨by first | rfl | (simp [errW_none, errW_some] <;> rfl) | (simp [*, errW_none, errW_some] <;> rfl), by repeat (first | (with_reducible first | exact HB.out | apply below_alloc | apply pw_below_drewN | apply below_drew1) | exact HB.out)⟩
                      · rw [if_neg c19] at H
                        have c19b0 : ((strOfNums t216).toList == (strOfNums l0).toList) = false := beq_eq_false_iff_ne.mpr c19
                        have c19b1 : ((strOfNums t216).toList != (strOfNums l0).toList) = true := bne_iff_ne.mpr c19
                        simp only [Option.some.injEq, Prod.mk.injEq] at H
                        obtain ⟨rfl, rfl, rfl, rfl, rfl⟩ := H
                        obtain ⟨i028, hi028, _, hsz28, _⟩ := info_parts info5
                        obtain ⟨hcut28, hA28, hC28⟩ := print_take_of (P := Tryd.prog) (Value.int .u8) 0 22 5 .i64 Tryd.underlying22 hi028 hsz28 A0 c0 l0 100 (by omega) (of_decide_eq_true (by first | (with_reducible assumption) | assumption)) HC0.out
                        have HR204 := Aside0.mk (Kd.C_of_reads (h1 := fun _ => rfl) (hA28 _ (Kd.reads_of_C HR0.out)))
                        have HC204 := Aside0.mk hC28
                        clear hA28 hC28 hi028 hsz28
                        obtain ⟨i029, hi029, _, hsz29, _⟩ := info_parts info5
                        obtain ⟨A29, hcut29, hA29, hC29⟩ := print_mid_of (P := Tryd.prog) (Value.int .u8) 0 22 5 .i64 .i64 Tryd.underlying22 hi029 hsz29 A0 c0 l0 157 257 (by omega) (by first | omega | exact of_decide_eq_true (by first | (with_reducible assumption) | assumption)) (of_decide_eq_true (by first | (with_reducible assumption) | assumption)) HC0.out
                        have HR206 := Aside0.mk (Kd.C_of_reads (h1 := fun _ => rfl) (hA29 _ (Kd.reads_of_C HR0.out)))
                        have HC206 := Aside0.mk hC29
                        clear hA29 hC29 hi029 hsz29
                        go_enter Tryd.func32, Tryd.ntmps32
                        go_wp2_with (first | (go_at_call 44; (with_reducible refine (head_field.calls _ _ (l0.take 100) t205 _ ?side1 ?side2 ?side3 A4.out).mono ?_); (case side1 => exact ⟨Tabs.below hT.out (by repeat (first | (with_reducible first | exact HB.out | apply below_alloc | apply pw_below_drewN | apply below_drew1) | exact HB.out))⟩); (case side2 => repeat (first | exact HR204.out | (with_reducible refine Kd.C_alloc ?_ _) | (with_reducible refine Kd.C_drewN ?_ _) | (with_reducible refine Kd.C_drew ?_))); (case side3 => exact HC204.out); rintro e w' ⟨rfl, ⟨nd, rfl⟩⟩; (try first | exact ⟨rfl, _, World.drewN_drewN _ _ _⟩ | exact ⟨rfl, _, Eq.trans (World.drewN_drewN _ _ _) (congrArg (World.drewN _) (Nat.add_assoc _ _ _))⟩)) | (go_at_call 44; (with_reducible refine (head_field.calls _ _ ((l0.take 257).drop 157) t207 _ ?side1 ?side2 ?side3 A7.out).mono ?_); (case side1 => exact ⟨Tabs.below hT.out (by repeat (first | (with_reducible first | exact HB.out | apply below_alloc | apply pw_below_drewN | apply below_drew1) | exact HB.out))⟩); (case side2 => repeat (first | exact HR206.out | (with_reducible refine Kd.C_alloc ?_ _) | (with_reducible refine Kd.C_drewN ?_ _) | (with_reducible refine Kd.C_drew ?_))); (case side3 => exact HC206.out); rintro e w' ⟨rfl, ⟨nd, rfl⟩⟩; (try first | exact ⟨rfl, _, World.drewN_drewN _ _ _⟩ | exact ⟨rfl, _, Eq.trans (World.drewN_drewN _ _ _) (congrArg (World.drewN _) (Nat.add_assoc _ _ _))⟩); have p208 : 0 ≤ (156 : Int) := (by omega); have q208 : 156 < (l0.length : Int) := of_decide_eq_true (by first | (with_reducible assumption) | assumption); obtain ⟨ad208, e208, hx208_0⟩ := Kd.at_int HR0.out 156 p208 q208; cases e208; (try simp only [show (156 : Int).toNat = 156 from rfl, Nat.reduceMul, Nat.reduceEqDiff, Go.Addr.add, ↓reduceIte] at hx208_0); have qi208 : (156 < l0.length) = True := eq_true (by omega); (try rw [show ((156 : Int)).toNat = 156 from rfl] at hx208_0); replace p208 := eq_true p208; replace q208 := eq_true q208; obtain ⟨i030, hi030, _, hsz30, _⟩ := info_parts info5; obtain ⟨A30, hcut30, hA30, hC30⟩ := print_mid_of (P := Tryd.prog) (Value.int .u8) 0 22 5 .i64 .i64 Tryd.underlying22 hi030 hsz30 (some ad208) c0 l0 100 108 (by omega) (by first | omega | exact of_decide_eq_true (by first | (with_reducible assumption) | assumption)) (of_decide_eq_true (by first | (with_reducible assumption) | assumption)) HC0.out; have HR209 := Aside0.mk (Kd.C_of_reads (h1 := fun _ => rfl) (hA30 _ (Kd.reads_of_C HR0.out))); have HC209 := Aside0.mk hC30; clear hA30 hC30 hi030 hsz30) | (go_at_call 44; (with_reducible refine (head_field.calls _ _ ((l0.take 108).drop 100) t210 _ ?side1 ?side2 ?side3 A11.out).mono ?_); (case side1 => exact ⟨Tabs.below hT.out (by repeat (first | (with_reducible first | exact HB.out | apply below_alloc | apply pw_below_drewN | apply below_drew1) | exact HB.out))⟩); (case side2 => repeat (first | exact HR209.out | (with_reducible refine Kd.C_alloc ?_ _) | (with_reducible refine Kd.C_drewN ?_ _) | (with_reducible refine Kd.C_drew ?_))); (case side3 => exact HC209.out); rintro e w' ⟨rfl, ⟨nd, rfl⟩⟩; (try first | exact ⟨rfl, _, World.drewN_drewN _ _ _⟩ | exact ⟨rfl, _, Eq.trans (World.drewN_drewN _ _ _) (congrArg (World.drewN _) (Nat.add_assoc _ _ _))⟩)) | (go_at_call 45; (with_reducible refine (head_kind.calls (rd l0 156) t210 t211 _ A12.out).mono ?_); rintro e w' ⟨rfl, ⟨nd, rfl⟩⟩; (try first | exact ⟨rfl, _, World.drewN_drewN _ _ _⟩ | exact ⟨rfl, _, Eq.trans (World.drewN_drewN _ _ _) (congrArg (World.drewN _) (Nat.add_assoc _ _ _))⟩); obtain ⟨i031, hi031, _, hsz31, _⟩ := info_parts info5; obtain ⟨A31, hcut31, hA31, hC31⟩ := print_mid_of (P := Tryd.prog) (Value.int .u8) 0 22 5 .i64 .i64 Tryd.underlying22 hi031 hsz31 (some ad208) c0 l0 124 136 (by omega) (by first | omega | exact of_decide_eq_true (by first | (with_reducible assumption) | assumption)) (of_decide_eq_true (by first | (with_reducible assumption) | assumption)) HC0.out; have HR212 := Aside0.mk (Kd.C_of_reads (h1 := fun _ => rfl) (hA31 _ (Kd.reads_of_C HR0.out))); have HC212 := Aside0.mk hC31; clear hA31 hC31 hi031 hsz31) | (go_at_call 44; (with_reducible refine (head_field.calls _ _ ((l0.take 136).drop 124) t213 _ ?side1 ?side2 ?side3 A15.out).mono ?_); (case side1 => exact ⟨Tabs.below hT.out (by repeat (first | (with_reducible first | exact HB.out | apply below_alloc | apply pw_below_drewN | apply below_drew1) | exact HB.out))⟩); (case side2 => repeat (first | exact HR212.out | (with_reducible refine Kd.C_alloc ?_ _) | (with_reducible refine Kd.C_drewN ?_ _) | (with_reducible refine Kd.C_drew ?_))); (case side3 => exact HC212.out); rintro e w' ⟨rfl, ⟨nd, rfl⟩⟩; (try first | exact ⟨rfl, _, World.drewN_drewN _ _ _⟩ | exact ⟨rfl, _, Eq.trans (World.drewN_drewN _ _ _) (congrArg (World.drewN _) (Nat.add_assoc _ _ _))⟩)) | (go_at_call 26; (with_reducible refine (head_OfOctal.calls k t213 t214 t215 _ A16.out).mono ?_); rintro e w' ⟨rfl, ⟨nd, rfl⟩⟩; (try first | exact ⟨rfl, _, World.drewN_drewN _ _ _⟩ | exact ⟨rfl, _, Eq.trans (World.drewN_drewN _ _ _) (congrArg (World.drewN _) (Nat.add_assoc _ _ _))⟩)) | (go_at_call 28; (with_reducible refine (head_Lay.calls k t205 t211 t214 t207 t216 true _ ?side1 A17.out).mono ?_); (case side1 => exact ⟨Tabs.below hT.out (by repeat (first | (with_reducible first | exact HB.out | apply below_alloc | apply pw_below_drewN | apply below_drew1) | exact HB.out))⟩); rintro e w32 ⟨v218, rfl, ho0, hb⟩; have n0_ := Aside0.mk (Kd.R_lower ho0 (below_size (by repeat (first | (with_reducible first | exact HB.out | apply below_alloc | apply pw_below_drewN | apply below_drew1) | exact HB.out)))); have n1_ := Aside0.mk (below_step (by repeat (first | (with_reducible first | exact HB.out | apply below_alloc | apply pw_below_drewN | apply below_drew1) | exact HB.out)) hb); clear HB; have HO219 := n0_; have HB := n1_; clear n0_ n1_; (try clear hb); (try clear hb2); (try clear hk); (try clear hi); (try clear ho0); have hcv33 := own_string (P := Tryd.prog) Tryd.underlying22 Tryd.underlying5 Tryd.underlying9 (Kd.own_of_R HO219.out); have hcv34 := Kd.C_string (P := Tryd.prog) (A := (some ad208)) (c := c0) Tryd.underlying22 Tryd.underlying5 Tryd.underlying9 (Kd.C_below HR0.out HB.out); have hcvq35 := C_string_any (P := Tryd.prog) (A := (some ad208)) (c := c0) Tryd.underlying22 Tryd.underlying5 Tryd.underlying9 (Kd.C_below HR0.out HB.out)))
                        repeat (go_quiet (first | (go_at_call 44; refine calls_of_len (n' := (l0.take 100).length) (by first | rfl | simp) ?_; (with_reducible refine (head_field.calls _ _ (l0.take 100) t205 _ ?side1 ?side2 ?side3 A4.out).mono ?_); (case side1 => exact ⟨Tabs.below hT.out (by repeat (first | (with_reducible first | exact HB.out | apply below_alloc | apply pw_below_drewN | apply below_drew1) | exact HB.out))⟩); (case side2 => repeat (first | exact HR204.out | (with_reducible refine Kd.C_alloc ?_ _) | (with_reducible refine Kd.C_drewN ?_ _) | (with_reducible refine Kd.C_drew ?_))); (case side3 => exact HC204.out); rintro e w' ⟨rfl, ⟨nd, rfl⟩⟩; (try first | exact ⟨rfl, _, World.drewN_drewN _ _ _⟩ | exact ⟨rfl, _, Eq.trans (World.drewN_drewN _ _ _) (congrArg (World.drewN _) (Nat.add_assoc _ _ _))⟩); (try clear A4)) | (go_at_call 44; refine calls_of_len (n' := ((l0.take 257).drop 157).length) (by first | rfl | simp) ?_; (with_reducible refine (head_field.calls _ _ ((l0.take 257).drop 157) t207 _ ?side1 ?side2 ?side3 A7.out).mono ?_); (case side1 => exact ⟨Tabs.below hT.out (by repeat (first | (with_reducible first | exact HB.out | apply below_alloc | apply pw_below_drewN | apply below_drew1) | exact HB.out))⟩); (case side2 => repeat (first | exact HR206.out | (with_reducible refine Kd.C_alloc ?_ _) | (with_reducible refine Kd.C_drewN ?_ _) | (with_reducible refine Kd.C_drew ?_))); (case side3 => exact HC206.out); rintro e w' ⟨rfl, ⟨nd, rfl⟩⟩; (try first | exact ⟨rfl, _, World.drewN_drewN _ _ _⟩ | exact ⟨rfl, _, Eq.trans (World.drewN_drewN _ _ _) (congrArg (World.drewN _) (Nat.add_assoc _ _ _))⟩); have p208 : 0 ≤ (156 : Int) := (by omega); have q208 : 156 < (l0.length : Int) := of_decide_eq_true (by first | (with_reducible assumption) | assumption); obtain ⟨ad208, e208, hx208_0⟩ := Kd.at_int HR0.out 156 p208 q208; cases e208; (try simp only [show (156 : Int).toNat = 156 from rfl, Nat.reduceMul, Nat.reduceEqDiff, Go.Addr.add, ↓reduceIte] at hx208_0); have qi208 : (156 < l0.length) = True := eq_true (by omega); (try rw [show ((156 : Int)).toNat = 156 from rfl] at hx208_0); replace p208 := eq_true p208; replace q208 := eq_true q208; obtain ⟨i030, hi030, _, hsz30, _⟩ := info_parts info5; obtain ⟨A30, hcut30, hA30, hC30⟩ := print_mid_of (P := Tryd.prog) (Value.int .u8) 0 22 5 .i64 .i64 Tryd.underlying22 hi030 hsz30 (some ad208) c0 l0 100 108 (by omega) (by first | omega | exact of_decide_eq_true (by first | (with_reducible assumption) | assumption)) (of_decide_eq_true (by first | (with_reducible assumption) | assumption)) HC0.out; have HR209 := Aside0.mk (Kd.C_of_reads (h1 := fun _ => rfl) (hA30 _ (Kd.reads_of_C HR0.out))); have HC209 := Aside0.mk hC30; clear hA30 hC30 hi030 hsz30; (try clear A7)) | (go_at_call 44; refine calls_of_len (n' := ((l0.take 108).drop 100).length) (by first | rfl | simp) ?_; (with_reducible refine (head_field.calls _ _ ((l0.take 108).drop 100) t210 _ ?side1 ?side2 ?side3 A11.out).mono ?_); (case side1 => exact ⟨Tabs.below hT.out (by repeat (first | (with_reducible first | exact HB.out | apply below_alloc | apply pw_below_drewN | apply below_drew1) | exact HB.out))⟩); (case side2 => repeat (first | exact HR209.out | (with_reducible refine Kd.C_alloc ?_ _) | (with_reducible refine Kd.C_drewN ?_ _) | (with_reducible refine Kd.C_drew ?_))); (case side3 => exact HC209.out); rintro e w' ⟨rfl, ⟨nd, rfl⟩⟩; (try first | exact ⟨rfl, _, World.drewN_drewN _ _ _⟩ | exact ⟨rfl, _, Eq.trans (World.drewN_drewN _ _ _) (congrArg (World.drewN _) (Nat.add_assoc _ _ _))⟩); (try clear A11)) | (go_at_call 45; (with_reducible refine (head_kind.calls (rd l0 156) t210 t211 _ A12.out).mono ?_); rintro e w' ⟨rfl, ⟨nd, rfl⟩⟩; (try first | exact ⟨rfl, _, World.drewN_drewN _ _ _⟩ | exact ⟨rfl, _, Eq.trans (World.drewN_drewN _ _ _) (congrArg (World.drewN _) (Nat.add_assoc _ _ _))⟩); obtain ⟨i031, hi031, _, hsz31, _⟩ := info_parts info5; obtain ⟨A31, hcut31, hA31, hC31⟩ := print_mid_of (P := Tryd.prog) (Value.int .u8) 0 22 5 .i64 .i64 Tryd.underlying22 hi031 hsz31 (some ad208) c0 l0 124 136 (by omega) (by first | omega | exact of_decide_eq_true (by first | (with_reducible assumption) | assumption)) (of_decide_eq_true (by first | (with_reducible assumption) | assumption)) HC0.out; have HR212 := Aside0.mk (Kd.C_of_reads (h1 := fun _ => rfl) (hA31 _ (Kd.reads_of_C HR0.out))); have HC212 := Aside0.mk hC31; clear hA31 hC31 hi031 hsz31; (try clear A12)) | (go_at_call 44; refine calls_of_len (n' := ((l0.take 136).drop 124).length) (by first | rfl | simp) ?_; (with_reducible refine (head_field.calls _ _ ((l0.take 136).drop 124) t213 _ ?side1 ?side2 ?side3 A15.out).mono ?_); (case side1 => exact ⟨Tabs.below hT.out (by repeat (first | (with_reducible first | exact HB.out | apply below_alloc | apply pw_below_drewN | apply below_drew1) | exact HB.out))⟩); (case side2 => repeat (first | exact HR212.out | (with_reducible refine Kd.C_alloc ?_ _) | (with_reducible refine Kd.C_drewN ?_ _) | (with_reducible refine Kd.C_drew ?_))); (case side3 => exact HC212.out); rintro e w' ⟨rfl, ⟨nd, rfl⟩⟩; (try first | exact ⟨rfl, _, World.drewN_drewN _ _ _⟩ | exact ⟨rfl, _, Eq.trans (World.drewN_drewN _ _ _) (congrArg (World.drewN _) (Nat.add_assoc _ _ _))⟩); (try clear A15)) | (go_at_call 26; (with_reducible refine (head_OfOctal.calls k t213 t214 t215 _ A16.out).mono ?_); rintro e w' ⟨rfl, ⟨nd, rfl⟩⟩; (try first | exact ⟨rfl, _, World.drewN_drewN _ _ _⟩ | exact ⟨rfl, _, Eq.trans (World.drewN_drewN _ _ _) (congrArg (World.drewN _) (Nat.add_assoc _ _ _))⟩); (try clear A16)) | (go_at_call 28; (with_reducible refine (head_Lay.calls k t205 t211 t214 t207 t216 true _ ?side1 A17.out).mono ?_); (case side1 => exact ⟨Tabs.below hT.out (by repeat (first | (with_reducible first | exact HB.out | apply below_alloc | apply pw_below_drewN | apply below_drew1) | exact HB.out))⟩); rintro e w32 ⟨v218, rfl, ho0, hb⟩; have n0_ := Aside0.mk (Kd.R_lower ho0 (below_size (by repeat (first | (with_reducible first | exact HB.out | apply below_alloc | apply pw_below_drewN | apply below_drew1) | exact HB.out)))); have n1_ := Aside0.mk (below_step (by repeat (first | (with_reducible first | exact HB.out | apply below_alloc | apply pw_below_drewN | apply below_drew1) | exact HB.out)) hb); clear HB; have HO219 := n0_; have HB := n1_; clear n0_ n1_; (try clear hb); (try clear hb2); (try clear hk); (try clear hi); (try clear ho0); have hcv33 := own_string (P := Tryd.prog) Tryd.underlying22 Tryd.underlying5 Tryd.underlying9 (Kd.own_of_R HO219.out); have hcv34 := Kd.C_string (P := Tryd.prog) (A := (some ad208)) (c := c0) Tryd.underlying22 Tryd.underlying5 Tryd.underlying9 (Kd.C_below HR0.out HB.out); have hcvq35 := C_string_any (P := Tryd.prog) (A := (some ad208)) (c := c0) Tryd.underlying22 Tryd.underlying5 Tryd.underlying9 (Kd.C_below HR0.out HB.out); (try clear A17))); try go_wp2_with (first | (go_at_call 44; refine calls_of_len (n' := (l0.take 100).length) (by first | rfl | simp) ?_; (with_reducible refine (head_field.calls _ _ (l0.take 100) t205 _ ?side1 ?side2 ?side3 A4.out).mono ?_); (case side1 => exact ⟨Tabs.below hT.out (by repeat (first | (with_reducible first | exact HB.out | apply below_alloc | apply pw_below_drewN | apply below_drew1) | exact HB.out))⟩); (case side2 => repeat (first | exact HR204.out | (with_reducible refine Kd.C_alloc ?_ _) | (with_reducible refine Kd.C_drewN ?_ _) | (with_reducible refine Kd.C_drew ?_))); (case side3 => exact HC204.out); rintro e w' ⟨rfl, ⟨nd, rfl⟩⟩; (try first | exact ⟨rfl, _, World.drewN_drewN _ _ _⟩ | exact ⟨rfl, _, Eq.trans (World.drewN_drewN _ _ _) (congrArg (World.drewN _) (Nat.add_assoc _ _ _))⟩); (try clear A4)) | (go_at_call 44; refine calls_of_len (n' := ((l0.take 257).drop 157).length) (by first | rfl | simp) ?_; (with_reducible refine (head_field.calls _ _ ((l0.take 257).drop 157) t207 _ ?side1 ?side2 ?side3 A7.out).mono ?_); (case side1 => exact ⟨Tabs.below hT.out (by repeat (first | (with_reducible first | exact HB.out | apply below_alloc | apply pw_below_drewN | apply below_drew1) | exact HB.out))⟩); (case side2 => repeat (first | exact HR206.out | (with_reducible refine Kd.C_alloc ?_ _) | (with_reducible refine Kd.C_drewN ?_ _) | (with_reducible refine Kd.C_drew ?_))); (case side3 => exact HC206.out); rintro e w' ⟨rfl, ⟨nd, rfl⟩⟩; (try first | exact ⟨rfl, _, World.drewN_drewN _ _ _⟩ | exact ⟨rfl, _, Eq.trans (World.drewN_drewN _ _ _) (congrArg (World.drewN _) (Nat.add_assoc _ _ _))⟩); have p208 : 0 ≤ (156 : Int) := (by omega); have q208 : 156 < (l0.length : Int) := of_decide_eq_true (by first | (with_reducible assumption) | assumption); obtain ⟨ad208, e208, hx208_0⟩ := Kd.at_int HR0.out 156 p208 q208; cases e208; (try simp only [show (156 : Int).toNat = 156 from rfl, Nat.reduceMul, Nat.reduceEqDiff, Go.Addr.add, ↓reduceIte] at hx208_0); have qi208 : (156 < l0.length) = True := eq_true (by omega); (try rw [show ((156 : Int)).toNat = 156 from rfl] at hx208_0); replace p208 := eq_true p208; replace q208 := eq_true q208; obtain ⟨i030, hi030, _, hsz30, _⟩ := info_parts info5; obtain ⟨A30, hcut30, hA30, hC30⟩ := print_mid_of (P := Tryd.prog) (Value.int .u8) 0 22 5 .i64 .i64 Tryd.underlying22 hi030 hsz30 (some ad208) c0 l0 100 108 (by omega) (by first | omega | exact of_decide_eq_true (by first | (with_reducible assumption) | assumption)) (of_decide_eq_true (by first | (with_reducible assumption) | assumption)) HC0.out; have HR209 := Aside0.mk (Kd.C_of_reads (h1 := fun _ => rfl) (hA30 _ (Kd.reads_of_C HR0.out))); have HC209 := Aside0.mk hC30; clear hA30 hC30 hi030 hsz30; (try clear A7)) | (go_at_call 44; refine calls_of_len (n' := ((l0.take 108).drop 100).length) (by first | rfl | simp) ?_; (with_reducible refine (head_field.calls _ _ ((l0.take 108).drop 100) t210 _ ?side1 ?side2 ?side3 A11.out).mono ?_); (case side1 => exact ⟨Tabs.below hT.out (by repeat (first | (with_reducible first | exact HB.out | apply below_alloc | apply pw_below_drewN | apply below_drew1) | exact HB.out))⟩); (case side2 => repeat (first | exact HR209.out | (with_reducible refine Kd.C_alloc ?_ _) | (with_reducible refine Kd.C_drewN ?_ _) | (with_reducible refine Kd.C_drew ?_))); (case side3 => exact HC209.out); rintro e w' ⟨rfl, ⟨nd, rfl⟩⟩; (try first | exact ⟨rfl, _, World.drewN_drewN _ _ _⟩ | exact ⟨rfl, _, Eq.trans (World.drewN_drewN _ _ _) (congrArg (World.drewN _) (Nat.add_assoc _ _ _))⟩); (try clear A11)) | (go_at_call 45; (with_reducible refine (head_kind.calls (rd l0 156) t210 t211 _ A12.out).mono ?_); rintro e w' ⟨rfl, ⟨nd, rfl⟩⟩; (try first | exact ⟨rfl, _, World.drewN_drewN _ _ _⟩ | exact ⟨rfl, _, Eq.trans (World.drewN_drewN _ _ _) (congrArg (World.drewN _) (Nat.add_assoc _ _ _))⟩); obtain ⟨i031, hi031, _, hsz31, _⟩ := info_parts info5; obtain ⟨A31, hcut31, hA31, hC31⟩ := print_mid_of (P := Tryd.prog) (Value.int .u8) 0 22 5 .i64 .i64 Tryd.underlying22 hi031 hsz31 (some ad208) c0 l0 124 136 (by omega) (by first | omega | exact of_decide_eq_true (by first | (with_reducible assumption) | assumption)) (of_decide_eq_true (by first | (with_reducible assumption) | assumption)) HC0.out; have HR212 := Aside0.mk (Kd.C_of_reads (h1 := fun _ => rfl) (hA31 _ (Kd.reads_of_C HR0.out))); have HC212 := Aside0.mk hC31; clear hA31 hC31 hi031 hsz31; (try clear A12)) | (go_at_call 44; refine calls_of_len (n' := ((l0.take 136).drop 124).length) (by first | rfl | simp) ?_; (with_reducible refine (head_field.calls _ _ ((l0.take 136).drop 124) t213 _ ?side1 ?side2 ?side3 A15.out).mono ?_); (case side1 => exact ⟨Tabs.below hT.out (by repeat (first | (with_reducible first | exact HB.out | apply below_alloc | apply pw_below_drewN | apply below_drew1) | exact HB.out))⟩); (case side2 => repeat (first | exact HR212.out | (with_reducible refine Kd.C_alloc ?_ _) | (with_reducible refine Kd.C_drewN ?_ _) | (with_reducible refine Kd.C_drew ?_))); (case side3 => exact HC212.out); rintro e w' ⟨rfl, ⟨nd, rfl⟩⟩; (try first | exact ⟨rfl, _, World.drewN_drewN _ _ _⟩ | exact ⟨rfl, _, Eq.trans (World.drewN_drewN _ _ _) (congrArg (World.drewN _) (Nat.add_assoc _ _ _))⟩); (try clear A15)) | (go_at_call 26; (with_reducible refine (head_OfOctal.calls k t213 t214 t215 _ A16.out).mono ?_); rintro e w' ⟨rfl, ⟨nd, rfl⟩⟩; (try first | exact ⟨rfl, _, World.drewN_drewN _ _ _⟩ | exact ⟨rfl, _, Eq.trans (World.drewN_drewN _ _ _) (congrArg (World.drewN _) (Nat.add_assoc _ _ _))⟩); (try clear A16)) | (go_at_call 28; (with_reducible refine (head_Lay.calls k t205 t211 t214 t207 t216 true _ ?side1 A17.out).mono ?_); (case side1 => exact ⟨Tabs.below hT.out (by repeat (first | (with_reducible first | exact HB.out | apply below_alloc | apply pw_below_drewN | apply below_drew1) | exact HB.out))⟩); rintro e w32 ⟨v218, rfl, ho0, hb⟩; have n0_ := Aside0.mk (Kd.R_lower ho0 (below_size (by repeat (first | (with_reducible first | exact HB.out | apply below_alloc | apply pw_below_drewN | apply below_drew1) | exact HB.out)))); have n1_ := Aside0.mk (below_step (by repeat (first | (with_reducible first | exact HB.out | apply below_alloc | apply pw_below_drewN | apply below_drew1) | exact HB.out)) hb); clear HB; have HO219 := n0_; have HB := n1_; clear n0_ n1_; (try clear hb); (try clear hb2); (try clear hk); (try clear hi); (try clear ho0); have hcv33 := own_string (P := Tryd.prog) Tryd.underlying22 Tryd.underlying5 Tryd.underlying9 (Kd.own_of_R HO219.out); have hcv34 := Kd.C_string (P := Tryd.prog) (A := (some ad208)) (c := c0) Tryd.underlying22 Tryd.underlying5 Tryd.underlying9 (Kd.C_below HR0.out HB.out); have hcvq35 := C_string_any (P := Tryd.prog) (A := (some ad208)) (c := c0) Tryd.underlying22 Tryd.underlying5 Tryd.underlying9 (Kd.C_below HR0.out HB.out); (try clear A17))))
                        refine bodyPost_ret (results_list (rs := [.tmp 2, .tmp 3, .tmp 4, .tmp 5, .tmp 6]) rfl (by simp) (.tmp (.tmp (.tmp (.tmp (.tmp .nil)))))) rfl ?_
                        exact ⟨by first | rfl | (simp [errW_none, errW_some] <;> rfl) | (simp [*, errW_none, errW_some] <;> rfl), by repeat (first | (with_reducible first | exact HB.out | apply below_alloc | apply pw_below_drewN | apply below_drew1) | exact HB.out)⟩
                    · replace c18 := Bool.eq_false_iff.mpr c18
                      subst c18
                      have H1 : (some ((⟨#[]⟩ : ByteArray), 0, 0, (⟨#[]⟩ : ByteArray), false)) = some (r1, r2, r3, r4, r5) := by rw [if_neg (show ¬ (false = true) by decide)] at H; exact H
                      clear H
                      have H := H1
                      clear H1
                      simp only [Option.some.injEq, Prod.mk.injEq] at H
                      obtain ⟨rfl, rfl, rfl, rfl, rfl⟩ := H
                      obtain ⟨i036, hi036, _, hsz36, _⟩ := info_parts info5
                      obtain ⟨hcut36, hA36, hC36⟩ := print_take_of (P := Tryd.prog) (Value.int .u8) 0 22 5 .i64 Tryd.underlying22 hi036 hsz36 A0 c0 l0 100 (by omega) (of_decide_eq_true (by first | (with_reducible assumption) | assumption)) HC0.out
                      have HR204 := Aside0.mk (Kd.C_of_reads (h1 := fun _ => rfl) (hA36 _ (Kd.reads_of_C HR0.out)))
                      have HC204 := Aside0.mk hC36
                      clear hA36 hC36 hi036 hsz36
                      obtain ⟨i037, hi037, _, hsz37, _⟩ := info_parts info5
                      obtain ⟨A37, hcut37, hA37, hC37⟩ := print_mid_of (P := Tryd.prog) (Value.int .u8) 0 22 5 .i64 .i64 Tryd.underlying22 hi037 hsz37 A0 c0 l0 157 257 (by omega) (by first | omega | exact of_decide_eq_true (by first | (with_reducible assumption) | assumption)) (of_decide_eq_true (by first | (with_reducible assumption) | assumption)) HC0.out
                      have HR206 := Aside0.mk (Kd.C_of_reads (h1 := fun _ => rfl) (hA37 _ (Kd.reads_of_C HR0.out)))
                      have HC206 := Aside0.mk hC37
                      clear hA37 hC37 hi037 hsz37
                      go_enter Tryd.func32, Tryd.ntmps32
                      go_wp2_with (first | (go_at_call 44; (with_reducible refine (head_field.calls _ _ (l0.take 100) t205 _ ?side1 ?side2 ?side3 A4.out).mono ?_); (case side1 => exact ⟨Tabs.below hT.out (by repeat (first | (with_reducible first | exact HB.out | apply below_alloc | apply pw_below_drewN | apply below_drew1) | exact HB.out))⟩); (case side2 => repeat (first | exact HR204.out | (with_reducible refine Kd.C_alloc ?_ _) | (with_reducible refine Kd.C_drewN ?_ _) | (with_reducible refine Kd.C_drew ?_))); (case side3 => exact HC204.out); rintro e w' ⟨rfl, ⟨nd, rfl⟩⟩; (try first | exact ⟨rfl, _, World.drewN_drewN _ _ _⟩ | exact ⟨rfl, _, Eq.trans (World.drewN_drewN _ _ _) (congrArg (World.drewN _) (Nat.add_assoc _ _ _))⟩)) | (go_at_call 44; (with_reducible refine (head_field.calls _ _ ((l0.take 257).drop 157) t207 _ ?side1 ?side2 ?side3 A7.out).mono ?_); (case side1 => exact ⟨Tabs.below hT.out (by repeat (first | (with_reducible first | exact HB.out | apply below_alloc | apply pw_below_drewN | apply below_drew1) | exact HB.out))⟩); (case side2 => repeat (first | exact HR206.out | (with_reducible refine Kd.C_alloc ?_ _) | (with_reducible refine Kd.C_drewN ?_ _) | (with_reducible refine Kd.C_drew ?_))); (case side3 => exact HC206.out); rintro e w' ⟨rfl, ⟨nd, rfl⟩⟩; (try first | exact ⟨rfl, _, World.drewN_drewN _ _ _⟩ | exact ⟨rfl, _, Eq.trans (World.drewN_drewN _ _ _) (congrArg (World.drewN _) (Nat.add_assoc _ _ _))⟩); have p208 : 0 ≤ (156 : Int) := (by omega); have q208 : 156 < (l0.length : Int) := of_decide_eq_true (by first | (with_reducible assumption) | assumption); obtain ⟨ad208, e208, hx208_0⟩ := Kd.at_int HR0.out 156 p208 q208; cases e208; (try simp only [show (156 : Int).toNat = 156 from rfl, Nat.reduceMul, Nat.reduceEqDiff, Go.Addr.add, ↓reduceIte] at hx208_0); have qi208 : (156 < l0.length) = True := eq_true (by omega); (try rw [show ((156 : Int)).toNat = 156 from rfl] at hx208_0); replace p208 := eq_true p208; replace q208 := eq_true q208; obtain ⟨i038, hi038, _, hsz38, _⟩ := info_parts info5; obtain ⟨A38, hcut38, hA38, hC38⟩ := print_mid_of (P := Tryd.prog) (Value.int .u8) 0 22 5 .i64 .i64 Tryd.underlying22 hi038 hsz38 (some ad208) c0 l0 100 108 (by omega) (by first | omega | exact of_decide_eq_true (by first | (with_reducible assumption) | assumption)) (of_decide_eq_true (by first | (with_reducible assumption) | assumption)) HC0.out; have HR209 := Aside0.mk (Kd.C_of_reads (h1 := fun _ => rfl) (hA38 _ (Kd.reads_of_C HR0.out))); have HC209 := Aside0.mk hC38; clear hA38 hC38 hi038 hsz38) | (go_at_call 44; (with_reducible refine (head_field.calls _ _ ((l0.take 108).drop 100) t210 _ ?side1 ?side2 ?side3 A11.out).mono ?_); (case side1 => exact ⟨Tabs.below hT.out (by repeat (first | (with_reducible first | exact HB.out | apply below_alloc | apply pw_below_drewN | apply below_drew1) | exact HB.out))⟩); (case side2 => repeat (first | exact HR209.out | (with_reducible refine Kd.C_alloc ?_ _) | (with_reducible refine Kd.C_drewN ?_ _) | (with_reducible refine Kd.C_drew ?_))); (case side3 => exact HC209.out); rintro e w' ⟨rfl, ⟨nd, rfl⟩⟩; (try first | exact ⟨rfl, _, World.drewN_drewN _ _ _⟩ | exact ⟨rfl, _, Eq.trans (World.drewN_drewN _ _ _) (congrArg (World.drewN _) (Nat.add_assoc _ _ _))⟩)) | (go_at_call 45; (with_reducible refine (head_kind.calls (rd l0 156) t210 t211 _ A12.out).mono ?_); rintro e w' ⟨rfl, ⟨nd, rfl⟩⟩; (try first | exact ⟨rfl, _, World.drewN_drewN _ _ _⟩ | exact ⟨rfl, _, Eq.trans (World.drewN_drewN _ _ _) (congrArg (World.drewN _) (Nat.add_assoc _ _ _))⟩); obtain ⟨i039, hi039, _, hsz39, _⟩ := info_parts info5; obtain ⟨A39, hcut39, hA39, hC39⟩ := print_mid_of (P := Tryd.prog) (Value.int .u8) 0 22 5 .i64 .i64 Tryd.underlying22 hi039 hsz39 (some ad208) c0 l0 124 136 (by omega) (by first | omega | exact of_decide_eq_true (by first | (with_reducible assumption) | assumption)) (of_decide_eq_true (by first | (with_reducible assumption) | assumption)) HC0.out; have HR212 := Aside0.mk (Kd.C_of_reads (h1 := fun _ => rfl) (hA39 _ (Kd.reads_of_C HR0.out))); have HC212 := Aside0.mk hC39; clear hA39 hC39 hi039 hsz39) | (go_at_call 44; (with_reducible refine (head_field.calls _ _ ((l0.take 136).drop 124) t213 _ ?side1 ?side2 ?side3 A15.out).mono ?_); (case side1 => exact ⟨Tabs.below hT.out (by repeat (first | (with_reducible first | exact HB.out | apply below_alloc | apply pw_below_drewN | apply below_drew1) | exact HB.out))⟩); (case side2 => repeat (first | exact HR212.out | (with_reducible refine Kd.C_alloc ?_ _) | (with_reducible refine Kd.C_drewN ?_ _) | (with_reducible refine Kd.C_drew ?_))); (case side3 => exact HC212.out); rintro e w' ⟨rfl, ⟨nd, rfl⟩⟩; (try first | exact ⟨rfl, _, World.drewN_drewN _ _ _⟩ | exact ⟨rfl, _, Eq.trans (World.drewN_drewN _ _ _) (congrArg (World.drewN _) (Nat.add_assoc _ _ _))⟩)) | (go_at_call 26; (with_reducible refine (head_OfOctal.calls k t213 t214 t215 _ A16.out).mono ?_); rintro e w' ⟨rfl, ⟨nd, rfl⟩⟩; (try first | exact ⟨rfl, _, World.drewN_drewN _ _ _⟩ | exact ⟨rfl, _, Eq.trans (World.drewN_drewN _ _ _) (congrArg (World.drewN _) (Nat.add_assoc _ _ _))⟩)) | (go_at_call 28; (with_reducible refine (head_Lay.calls k t205 t211 t214 t207 t216 false _ ?side1 A17.out).mono ?_); (case side1 => exact ⟨Tabs.below hT.out (by repeat (first | (with_reducible first | exact HB.out | apply below_alloc | apply pw_below_drewN | apply below_drew1) | exact HB.out))⟩); rintro e w40 ⟨v218, rfl, ho0, hb⟩; have n0_ := Aside0.mk (Kd.R_lower ho0 (below_size (by repeat (first | (with_reducible first | exact HB.out | apply below_alloc | apply pw_below_drewN | apply below_drew1) | exact HB.out)))); have n1_ := Aside0.mk (below_step (by repeat (first | (with_reducible first | exact HB.out | apply below_alloc | apply pw_below_drewN | apply below_drew1) | exact HB.out)) hb); clear HB; have HO219 := n0_; have HB := n1_; clear n0_ n1_; (try clear hb); (try clear hb2); (try clear hk); (try clear hi); (try clear ho0)))
                      repeat (go_quiet (first | (go_at_call 44; refine calls_of_len (n' := (l0.take 100).length) (by first | rfl | simp) ?_; (with_reducible refine (head_field.calls _ _ (l0.take 100) t205 _ ?side1 ?side2 ?side3 A4.out).mono ?_); (case side1 => exact ⟨Tabs.below hT.out (by repeat (first | (with_reducible first | exact HB.out | apply below_alloc | apply pw_below_drewN | apply below_drew1) | exact HB.out))⟩); (case side2 => repeat (first | exact HR204.out | (with_reducible refine Kd.C_alloc ?_ _) | (with_reducible refine Kd.C_drewN ?_ _) | (with_reducible refine Kd.C_drew ?_))); (case side3 => exact HC204.out); rintro e w' ⟨rfl, ⟨nd, rfl⟩⟩; (try first | exact ⟨rfl, _, World.drewN_drewN _ _ _⟩ | exact ⟨rfl, _, Eq.trans (World.drewN_drewN _ _ _) (congrArg (World.drewN _) (Nat.add_assoc _ _ _))⟩); (try clear A4)) | (go_at_call 44; refine calls_of_len (n' := ((l0.take 257).drop 157).length) (by first | rfl | simp) ?_; (with_reducible refine (head_field.calls _ _ ((l0.take 257).drop 157) t207 _ ?side1 ?side2 ?side3 A7.out).mono ?_); (case side1 => exact ⟨Tabs.below hT.out (by repeat (first | (with_reducible first | exact HB.out | apply below_alloc | apply pw_below_drewN | apply below_drew1) | exact HB.out))⟩); (case side2 => repeat (first | exact HR206.out | (with_reducible refine Kd.C_alloc ?_ _) | (with_reducible refine Kd.C_drewN ?_ _) | (with_reducible refine Kd.C_drew ?_))); (case side3 => exact HC206.out); rintro e w' ⟨rfl, ⟨nd, rfl⟩⟩; (try first | exact ⟨rfl, _, World.drewN_drewN _ _ _⟩ | exact ⟨rfl, _, Eq.trans (World.drewN_drewN _ _ _) (congrArg (World.drewN _) (Nat.add_assoc _ _ _))⟩); have p208 : 0 ≤ (156 : Int) := (by omega); have q208 : 156 < (l0.length : Int) := of_decide_eq_true (by first | (with_reducible assumption) | assumption); obtain ⟨ad208, e208, hx208_0⟩ := Kd.at_int HR0.out 156 p208 q208; cases e208; (try simp only [show (156 : Int).toNat = 156 from rfl, Nat.reduceMul, Nat.reduceEqDiff, Go.Addr.add, ↓reduceIte] at hx208_0); have qi208 : (156 < l0.length) = True := eq_true (by omega); (try rw [show ((156 : Int)).toNat = 156 from rfl] at hx208_0); replace p208 := eq_true p208; replace q208 := eq_true q208; obtain ⟨i038, hi038, _, hsz38, _⟩ := info_parts info5; obtain ⟨A38, hcut38, hA38, hC38⟩ := print_mid_of (P := Tryd.prog) (Value.int .u8) 0 22 5 .i64 .i64 Tryd.underlying22 hi038 hsz38 (some ad208) c0 l0 100 108 (by omega) (by first | omega | exact of_decide_eq_true (by first | (with_reducible assumption) | assumption)) (of_decide_eq_true (by first | (with_reducible assumption) | assumption)) HC0.out; have HR209 := Aside0.mk (Kd.C_of_reads (h1 := fun _ => rfl) (hA38 _ (Kd.reads_of_C HR0.out))); have HC209 := Aside0.mk hC38; clear hA38 hC38 hi038 hsz38; (try clear A7)) | (go_at_call 44; refine calls_of_len (n' := ((l0.take 108).drop 100).length) (by first | rfl | simp) ?_; (with_reducible refine (head_field.calls _ _ ((l0.take 108).drop 100) t210 _ ?side1 ?side2 ?side3 A11.out).mono ?_); (case side1 => exact ⟨Tabs.below hT.out (by repeat (first | (with_reducible first | exact HB.out | apply below_alloc | apply pw_below_drewN | apply below_drew1) | exact HB.out))⟩); (case side2 => repeat (first | exact HR209.out | (with_reducible refine Kd.C_alloc ?_ _) | (with_reducible refine Kd.C_drewN ?_ _) | (with_reducible refine Kd.C_drew ?_))); (case side3 => exact HC209.out); rintro e w' ⟨rfl, ⟨nd, rfl⟩⟩; (try first | exact ⟨rfl, _, World.drewN_drewN _ _ _⟩ | exact ⟨rfl, _, Eq.trans (World.drewN_drewN _ _ _) (congrArg (World.drewN _) (Nat.add_assoc _ _ _))⟩); (try clear A11)) | (go_at_call 45; (with_reducible refine (head_kind.calls (rd l0 156) t210 t211 _ A12.out).mono ?_); rintro e w' ⟨rfl, ⟨nd, rfl⟩⟩; (try first | exact ⟨rfl, _, World.drewN_drewN _ _ _⟩ | exact ⟨rfl, _, Eq.trans (World.drewN_drewN _ _ _) (congrArg (World.drewN _) (Nat.add_assoc _ _ _))⟩); obtain ⟨i039, hi039, _, hsz39, _⟩ := info_parts info5; obtain ⟨A39, hcut39, hA39, hC39⟩ := print_mid_of (P := Tryd.prog) (Value.int .u8) 0 22 5 .i64 .i64 Tryd.underlying22 hi039 hsz39 (some ad208) c0 l0 124 136 (by omega) (by first | omega | exact of_decide_eq_true (by first | (with_reducible assumption) | assumption)) (of_decide_eq_true (by first | (with_reducible assumption) | assumption)) HC0.out; have HR212 := Aside0.mk (Kd.C_of_reads (h1 := fun _ => rfl) (hA39 _ (Kd.reads_of_C HR0.out))); have HC212 := Aside0.mk hC39; clear hA39 hC39 hi039 hsz39; (try clear A12)) | (go_at_call 44; refine calls_of_len (n' := ((l0.take 136).drop 124).length) (by first | rfl | simp) ?_; (with_reducible refine (head_field.calls _ _ ((l0.take 136).drop 124) t213 _ ?side1 ?side2 ?side3 A15.out).mono ?_); (case side1 => exact ⟨Tabs.below hT.out (by repeat (first | (with_reducible first | exact HB.out | apply below_alloc | apply pw_below_drewN | apply below_drew1) | exact HB.out))⟩); (case side2 => repeat (first | exact HR212.out | (with_reducible refine Kd.C_alloc ?_ _) | (with_reducible refine Kd.C_drewN ?_ _) | (with_reducible refine Kd.C_drew ?_))); (case side3 => exact HC212.out); rintro e w' ⟨rfl, ⟨nd, rfl⟩⟩; (try first | exact ⟨rfl, _, World.drewN_drewN _ _ _⟩ | exact ⟨rfl, _, Eq.trans (World.drewN_drewN _ _ _) (congrArg (World.drewN _) (Nat.add_assoc _ _ _))⟩); (try clear A15)) | (go_at_call 26; (with_reducible refine (head_OfOctal.calls k t213 t214 t215 _ A16.out).mono ?_); rintro e w' ⟨rfl, ⟨nd, rfl⟩⟩; (try first | exact ⟨rfl, _, World.drewN_drewN _ _ _⟩ | exact ⟨rfl, _, Eq.trans (World.drewN_drewN _ _ _) (congrArg (World.drewN _) (Nat.add_assoc _ _ _))⟩); (try clear A16)) | (go_at_call 28; (with_reducible refine (head_Lay.calls k t205 t211 t214 t207 t216 false _ ?side1 A17.out).mono ?_); (case side1 => exact ⟨Tabs.below hT.out (by repeat (first | (with_reducible first | exact HB.out | apply below_alloc | apply pw_below_drewN | apply below_drew1) | exact HB.out))⟩); rintro e w40 ⟨v218, rfl, ho0, hb⟩; have n0_ := Aside0.mk (Kd.R_lower ho0 (below_size (by repeat (first | (with_reducible first | exact HB.out | apply below_alloc | apply pw_below_drewN | apply below_drew1) | exact HB.out)))); have n1_ := Aside0.mk (below_step (by repeat (first | (with_reducible first | exact HB.out | apply below_alloc | apply pw_below_drewN | apply below_drew1) | exact HB.out)) hb); clear HB; have HO219 := n0_; have HB := n1_; clear n0_ n1_; (try clear hb); (try clear hb2); (try clear hk); (try clear hi); (try clear ho0); (try clear A17))); try go_wp2_with (first | (go_at_call 44; refine calls_of_len (n' := (l0.take 100).length) (by first | rfl | simp) ?_; (with_reducible refine (head_field.calls _ _ (l0.take 100) t205 _ ?side1 ?side2 ?side3 A4.out).mono ?_); (case side1 => exact ⟨Tabs.below hT.out (by repeat (first | (with_reducible first | exact HB.out | apply below_alloc | apply pw_below_drewN | apply below_drew1) | exact HB.out))⟩); (case side2 => repeat (first | exact HR204.out | (with_reducible refine Kd.C_alloc ?_ _) | (with_reducible refine Kd.C_drewN ?_ _) | (with_reducible refine Kd.C_drew ?_))); (case side3 => exact HC204.out); rintro e w' ⟨rfl, ⟨nd, rfl⟩⟩; (try first | exact ⟨rfl, _, World.drewN_drewN _ _ _⟩ | exact ⟨rfl, _, Eq.trans (World.drewN_drewN _ _ _) (congrArg (World.drewN _) (Nat.add_assoc _ _ _))⟩); (try clear A4)) | (go_at_call 44; refine calls_of_len (n' := ((l0.take 257).drop 157).length) (by first | rfl | simp) ?_; (with_reducible refine (head_field.calls _ _ ((l0.take 257).drop 157) t207 _ ?side1 ?side2 ?side3 A7.out).mono ?_); (case side1 => exact ⟨Tabs.below hT.out (by repeat (first | (with_reducible first | exact HB.out | apply below_alloc | apply pw_below_drewN | apply below_drew1) | exact HB.out))⟩); (case side2 => repeat (first | exact HR206.out | (with_reducible refine Kd.C_alloc ?_ _) | (with_reducible refine Kd.C_drewN ?_ _) | (with_reducible refine Kd.C_drew ?_))); (case side3 => exact HC206.out); rintro e w' ⟨rfl, ⟨nd, rfl⟩⟩; (try first | exact ⟨rfl, _, World.drewN_drewN _ _ _⟩ | exact ⟨rfl, _, Eq.trans (World.drewN_drewN _ _ _) (congrArg (World.drewN _) (Nat.add_assoc _ _ _))⟩); have p208 : 0 ≤ (156 : Int) := (by omega); have q208 : 156 < (l0.length : Int) := of_decide_eq_true (by first | (with_reducible assumption) | assumption); obtain ⟨ad208, e208, hx208_0⟩ := Kd.at_int HR0.out 156 p208 q208; cases e208; (try simp only [show (156 : Int).toNat = 156 from rfl, Nat.reduceMul, Nat.reduceEqDiff, Go.Addr.add, ↓reduceIte] at hx208_0); have qi208 : (156 < l0.length) = True := eq_true (by omega); (try rw [show ((156 : Int)).toNat = 156 from rfl] at hx208_0); replace p208 := eq_true p208; replace q208 := eq_true q208; obtain ⟨i038, hi038, _, hsz38, _⟩ := info_parts info5; obtain ⟨A38, hcut38, hA38, hC38⟩ := print_mid_of (P := Tryd.prog) (Value.int .u8) 0 22 5 .i64 .i64 Tryd.underlying22 hi038 hsz38 (some ad208) c0 l0 100 108 (by omega) (by first | omega | exact of_decide_eq_true (by first | (with_reducible assumption) | assumption)) (of_decide_eq_true (by first | (with_reducible assumption) | assumption)) HC0.out; have HR209 := Aside0.mk (Kd.C_of_reads (h1 := fun _ => rfl) (hA38 _ (Kd.reads_of_C HR0.out))); have HC209 := Aside0.mk hC38; clear hA38 hC38 hi038 hsz38; (try clear A7)) | (go_at_call 44; refine calls_of_len (n' := ((l0.take 108).drop 100).length) (by first | rfl | simp) ?_; (with_reducible refine (head_field.calls _ _ ((l0.take 108).drop 100) t210 _ ?side1 ?side2 ?side3 A11.out).mono ?_); (case side1 => exact ⟨Tabs.below hT.out (by repeat (first | (with_reducible first | exact HB.out | apply below_alloc | apply pw_below_drewN | apply below_drew1) | exact HB.out))⟩); (case side2 => repeat (first | exact HR209.out | (with_reducible refine Kd.C_alloc ?_ _) | (with_reducible refine Kd.C_drewN ?_ _) | (with_reducible refine Kd.C_drew ?_))); (case side3 => exact HC209.out); rintro e w' ⟨rfl, ⟨nd, rfl⟩⟩; (try first | exact ⟨rfl, _, World.drewN_drewN _ _ _⟩ | exact ⟨rfl, _, Eq.trans (World.drewN_drewN _ _ _) (congrArg (World.drewN _) (Nat.add_assoc _ _ _))⟩); (try clear A11)) | (go_at_call 45; (with_reducible refine (head_kind.calls (rd l0 156) t210 t211 _ A12.out).mono ?_); rintro e w' ⟨rfl, ⟨nd, rfl⟩⟩; (try first | exact ⟨rfl, _, World.drewN_drewN _ _ _⟩ | exact ⟨rfl, _, Eq.trans (World.drewN_drewN _ _ _) (congrArg (World.drewN _) (Nat.add_assoc _ _ _))⟩); obtain ⟨i039, hi039, _, hsz39, _⟩ := info_parts info5; obtain ⟨A39, hcut39, hA39, hC39⟩ := print_mid_of (P := Tryd.prog) (Value.int .u8) 0 22 5 .i64 .i64 Tryd.underlying22 hi039 hsz39 (some ad208) c0 l0 124 136 (by omega) (by first | omega | exact of_decide_eq_true (by first | (with_reducible assumption) | assumption)) (of_decide_eq_true (by first | (with_reducible assumption) | assumption)) HC0.out; have HR212 := Aside0.mk (Kd.C_of_reads (h1 := fun _ => rfl) (hA39 _ (Kd.reads_of_C HR0.out))); have HC212 := Aside0.mk hC39; clear hA39 hC39 hi039 hsz39; (try clear A12)) | (go_at_call 44; refine calls_of_len (n' := ((l0.take 136).drop 124).length) (by first | rfl | simp) ?_; (with_reducible refine (head_field.calls _ _ ((l0.take 136).drop 124) t213 _ ?side1 ?side2 ?side3 A15.out).mono ?_); (case side1 => exact ⟨Tabs.below hT.out (by repeat (first | (with_reducible first | exact HB.out | apply below_alloc | apply pw_below_drewN | apply below_drew1) | exact HB.out))⟩); (case side2 => repeat (first | exact HR212.out | (with_reducible refine Kd.C_alloc ?_ _) | (with_reducible refine Kd.C_drewN ?_ _) | (with_reducible refine Kd.C_drew ?_))); (case side3 => exact HC212.out); rintro e w' ⟨rfl, ⟨nd, rfl⟩⟩; (try first | exact ⟨rfl, _, World.drewN_drewN _ _ _⟩ | exact ⟨rfl, _, Eq.trans (World.drewN_drewN _ _ _) (congrArg (World.drewN _) (Nat.add_assoc _ _ _))⟩); (try clear A15)) | (go_at_call 26; (with_reducible refine (head_OfOctal.calls k t213 t214 t215 _ A16.out).mono ?_); rintro e w' ⟨rfl, ⟨nd, rfl⟩⟩; (try first | exact ⟨rfl, _, World.drewN_drewN _ _ _⟩ | exact ⟨rfl, _, Eq.trans (World.drewN_drewN _ _ _) (congrArg (World.drewN _) (Nat.add_assoc _ _ _))⟩); (try clear A16)) | (go_at_call 28; (with_reducible refine (head_Lay.calls k t205 t211 t214 t207 t216 false _ ?side1 A17.out).mono ?_); (case side1 => exact ⟨Tabs.below hT.out (by repeat (first | (with_reducible first | exact HB.out | apply below_alloc | apply pw_below_drewN | apply below_drew1) | exact HB.out))⟩); rintro e w40 ⟨v218, rfl, ho0, hb⟩; have n0_ := Aside0.mk (Kd.R_lower ho0 (below_size (by repeat (first | (with_reducible first | exact HB.out | apply below_alloc | apply pw_below_drewN | apply below_drew1) | exact HB.out)))); have n1_ := Aside0.mk (below_step (by repeat (first | (with_reducible first | exact HB.out | apply below_alloc | apply pw_below_drewN | apply below_drew1) | exact HB.out)) hb); clear HB; have HO219 := n0_; have HB := n1_; clear n0_ n1_; (try clear hb); (try clear hb2); (try clear hk); (try clear hi); (try clear ho0); (try clear A17))))
                      refine bodyPost_ret (results_list (rs := [.tmp 2, .tmp 3, .tmp 4, .tmp 5, .tmp 6]) rfl (by simp) (.tmp (.tmp (.tmp (.tmp (.tmp .nil)))))) rfl ?_
                      exact ⟨by first | rfl | (simp [errW_none, errW_some] <;> rfl) | (simp [*, errW_none, errW_some] <;> rfl), by repeat (first | (with_reducible first | exact HB.out | apply below_alloc | apply pw_below_drewN | apply below_drew1) | exact HB.out)⟩
                  · rw [if_neg c14] at H
                    exact absurd H (by simp)
                · rw [if_neg c13] at H
                  exact absurd H (by simp)
              · rw [if_neg c10] at H
                exact absurd H (by simp)
            · rw [if_neg c9] at H
              exact absurd H (by simp)
          · rw [if_neg c8] at H
            exact absurd H (by simp)
        · rw [if_neg c6] at H
          exact absurd H (by simp)
      · rw [if_neg c5] at H
        exact absurd H (by simp)
    · rw [if_neg c3] at H
      exact absurd H (by simp)
  · rw [if_neg c2] at H
    have c2b0 : ((l0.length : Int) == 512) = false := beq_eq_false_iff_ne.mpr c2
    have c2b1 : ((l0.length : Int) != 512) = true := bne_iff_ne.mpr c2
    simp only [Option.some.injEq, Prod.mk.injEq] at H
    obtain ⟨rfl, rfl, rfl, rfl, rfl⟩ := H
    go_enter Tryd.func32, Tryd.ntmps32
    go_wp2
    repeat (go_quiet (fail); try go_wp2)
    refine bodyPost_ret (results_list (rs := [.tmp 2, .tmp 3, .tmp 4, .tmp 5, .tmp 6]) rfl (by simp) (.tmp (.tmp (.tmp (.tmp (.tmp .nil)))))) rfl ?_
    exact ⟨by first | rfl | (simp [errW_none, errW_some] <;> rfl) | (simp [*, errW_none, errW_some] <;> rfl), by repeat (first | (with_reducible first | exact HB.out | apply below_alloc | apply pw_below_drewN | apply below_drew1) | exact HB.out)⟩

end Go.Proofs.YtidlgdpjcognpaaDoor.P

-- written by xprint.py (the kit's print.py, turned), out of the translation; Lean checks it.
namespace Go.Proofs.YtidlgdpjcognpaaDoor.P
open Go.Proofs.YtidlgdpjcognpaaDoor.X
open Go.RowKit Go.Proofs.YtidlgdpjcognpaaDoorW.PrintWords Go.Proofs.YtidlgdpjcognpaaDoorW.PrintLast Go.Proofs.YtidlgdpjcognpaaDoorW.PrintMore
attribute [local go_sem] max2_int min2_int max_two min_two max_three min_three max_four min_four   -- for this text's walks alone
set_option linter.unusedVariables false
set_option linter.unusedSimpArgs false

/-! ### hogsheadref12_field: function 46 -/
def hogsheadref12_field.l0 : Nat → List Int → Int → Option (ByteArray)
  | 0, _, _ => none
  | k + 1, x0, x3 => if x3 < (x0.length : Int) then (if 0 ≤ x3 then (if (rd x0 x3) = 0 then (if x3 ≤ (x0.length : Int) then (some (strOfNums (x0.take (x3 : Int).toNat))) else (none)) else (hogsheadref12_field.l0 k x0 (wrap64 (x3 + 1)))) else (none)) else (if 0 ≤ x3 then (if x3 ≤ (x0.length : Int) then (some (strOfNums (x0.take (x3 : Int).toNat))) else (none)) else (none))
def hogsheadref12_field.f (k : Nat) (l0 : List Int) : Option (ByteArray) := hogsheadref12_field.l0 k l0 0
theorem hogsheadref12_field.mono_l : ∀ k, (∀ y0 y1, LeO (hogsheadref12_field.l0 k y0 y1) (hogsheadref12_field.l0 (k + 1) y0 y1))
  | 0 => fun _ _ r h => by simp [hogsheadref12_field.l0] at h
  | k + 1 => by
    have ih0 := hogsheadref12_field.mono_l k
    · intro y0 y1
      unfold hogsheadref12_field.l0
      repeat' first
      | (with_reducible exact ih0 _ _)
      | (with_reducible exact LeO.refl _)
      | (with_reducible exact LeO.none _)
      | (with_reducible refine LeO.ite ?_ ?_)
      | (with_reducible refine LeO.bind ?_ (fun _ => ?_))
      | exact ih0 _ _
      | exact LeO.none _
      | refine LeO.ite ?_ ?_
      | refine LeO.bind ?_ (fun _ => ?_)
theorem hogsheadref12_field.mono : ∀ a0 k, LeO (hogsheadref12_field.f k a0) (hogsheadref12_field.f (k + 1) a0) := by
  intro a0 k
  have ih0 := hogsheadref12_field.mono_l k
  unfold hogsheadref12_field.f
  repeat' first
      | (with_reducible exact ih0 _ _)
      | (with_reducible exact LeO.refl _)
      | (with_reducible exact LeO.none _)
      | (with_reducible refine LeO.ite ?_ ?_)
      | (with_reducible refine LeO.bind ?_ (fun _ => ?_))
      | exact ih0 _ _
      | exact LeO.none _
      | refine LeO.ite ?_ ?_
      | refine LeO.bind ?_ (fun _ => ?_)
set_option maxHeartbeats 8000000 in
set_option maxRecDepth 100000 in
theorem hogsheadref12_field.calls (k : Nat) (A0 : Option Addr) (c0 : Nat) (l0 : List Int) (r : ByteArray) (w : World) (hr0 : Kd.C (Kd.int .u8) w A0 l0.length l0) (hc0 : l0.length ≤ c0) (h : hogsheadref12_field.f k l0 = some r) :
    Calls Tryd.prog 46 #[.slice A0 l0.length c0] w fun e w' => e = .returned (.string r) ∧ Drawn0 w w' := by
  have HR0 := Aside0.mk hr0
  have HC0 := Aside0.mk hc0
  clear hr0 hc0
  have H : (hogsheadref12_field.l0 k l0 0) = some r := h
  clear h
  have H' := Aside0.mk H
  clear H
  go_enter Tryd.func46, Tryd.ntmps46
  go_wp2
  go_loopg [3] k (fun kq v3 w' => ∃ (x3_1 : Int), v3 = .int .i64 x3_1 ∧ Aside0 (hogsheadref12_field.l0 kq l0 x3_1 = some r) ∧ Aside0 (kq ≤ k) ∧ Drawn0 w w')
  case atStart => exact ⟨(0), (by first | rfl | (simp; done) | (simp [*]; done)), H', ⟨Nat.le_refl _⟩, by repeat (first | exact Drawn0.refl _ | apply Drawn0.step)⟩
  case round =>
    clear H'
    obtain ⟨x3_1, rfl, HA, HK1, ⟨m1, rfl⟩⟩ := hrel
    cases gk with
    | zero => exact absurd HA.out (by simp [hogsheadref12_field.l0])
    | succ k1 =>
      have H := HA.out
      clear HA
      simp only [hogsheadref12_field.l0] at H
      by_cases c2 : x3_1 < (l0.length : Int)
      · rw [if_pos c2] at H
        have c2b0 : decide (x3_1 < (l0.length : Int)) = true := decide_eq_true c2
        clear c2
        by_cases c3 : 0 ≤ x3_1
        · rw [if_pos c3] at H
          have c3b0 : decide (0 ≤ x3_1) = true := decide_eq_true c3
          clear c3
          by_cases c4 : (rd l0 x3_1) = 0
          · rw [if_pos c4] at H
            have c4b0 : ((rd l0 x3_1) == 0) = true := beq_iff_eq.mpr c4
            have c4b1 : ((rd l0 x3_1) != 0) = false := bne_eq_false_iff_eq.mpr c4
            clear c4
            have c5b0 := eq_true (of_decide_eq_true (by first | (with_reducible assumption) | assumption) : 0 ≤ x3_1)
            by_cases c6 : x3_1 ≤ (l0.length : Int)
            · rw [if_pos c6] at H
              have c6b0 := eq_true c6
              have c6b1 : decide (x3_1 ≤ (l0.length : Int)) = true := decide_eq_true c6
              clear c6
              obtain rfl := Option.some.inj H
              have p220 : 0 ≤ (x3_1 : Int) := of_decide_eq_true (by first | (with_reducible assumption) | assumption)
              have q220 : x3_1 < (l0.length : Int) := of_decide_eq_true (by first | (with_reducible assumption) | assumption)
              obtain ⟨ad220, e220, hx220_0⟩ := Kd.at_int HR0.out x3_1 p220 q220
              cases e220
              replace p220 := eq_true p220
              replace q220 := eq_true q220
              obtain ⟨i07, hi07, _, hsz7, _⟩ := info_parts info5
              obtain ⟨hcut7, hA7, hC7⟩ := print_take_of (P := Tryd.prog) (Value.int .u8) 0 22 5 .i64 Tryd.underlying22 hi07 hsz7 (some ad220) c0 l0 x3_1 (of_decide_eq_true (by first | (with_reducible assumption) | assumption)) (of_decide_eq_true (by first | (with_reducible assumption) | assumption)) HC0.out
              have HR221 := Aside0.mk (Kd.C_of_reads (h1 := fun _ => rfl) (hA7 _ (Kd.reads_of_C HR0.out)))
              have HC221 := Aside0.mk hC7
              clear hA7 hC7 hi07 hsz7
              have hcv8 := Kd.C_string (P := Tryd.prog) (A := (some ad220)) (c := c0) Tryd.underlying22 Tryd.underlying5 Tryd.underlying9 HR221.out
              have hcvq9 := C_string_any (P := Tryd.prog) (A := (some ad220)) (c := c0) Tryd.underlying22 Tryd.underlying5 Tryd.underlying9 HR221.out
              go_wp2
              go_ret
              exact ⟨by first | rfl | (simp; done) | (simp [*]; done), by repeat (first | exact Drawn0.refl _ | apply Drawn0.step)⟩
            · rw [if_neg c6] at H
              exact absurd H (by simp)
          · rw [if_neg c4] at H
            have c4b0 : ((rd l0 x3_1) == 0) = false := beq_eq_false_iff_ne.mpr c4
            have c4b1 : ((rd l0 x3_1) != 0) = true := bne_iff_ne.mpr c4
            have H' := Aside0.mk H
            clear H
            have p220 : 0 ≤ (x3_1 : Int) := of_decide_eq_true (by first | (with_reducible assumption) | assumption)
            have q220 : x3_1 < (l0.length : Int) := of_decide_eq_true (by first | (with_reducible assumption) | assumption)
            obtain ⟨ad220, e220, hx220_0⟩ := Kd.at_int HR0.out x3_1 p220 q220
            cases e220
            replace p220 := eq_true p220
            replace q220 := eq_true q220
            go_wp2
            go_roundg k1
            case measure => have := HK1.out; omega
            case rel => exact ⟨(wrap64 (x3_1 + 1)), (by first | rfl | (simp; done) | (simp [*]; done)), H', ⟨by have := HK1.out; omega⟩, by repeat (first | exact Drawn0.refl _ | apply Drawn0.step)⟩
        · rw [if_neg c3] at H
          exact absurd H (by simp)
      · rw [if_neg c2] at H
        have c2b0 : decide (x3_1 < (l0.length : Int)) = false := decide_eq_false c2
        clear c2
        by_cases c10 : 0 ≤ x3_1
        · rw [if_pos c10] at H
          have c10b0 := eq_true c10
          have c10b1 : decide (0 ≤ x3_1) = true := decide_eq_true c10
          clear c10
          by_cases c11 : x3_1 ≤ (l0.length : Int)
          · rw [if_pos c11] at H
            have c11b0 := eq_true c11
            have c11b1 : decide (x3_1 ≤ (l0.length : Int)) = true := decide_eq_true c11
            clear c11
            obtain rfl := Option.some.inj H
            obtain ⟨i012, hi012, _, hsz12, _⟩ := info_parts info5
            obtain ⟨hcut12, hA12, hC12⟩ := print_take_of (P := Tryd.prog) (Value.int .u8) 0 22 5 .i64 Tryd.underlying22 hi012 hsz12 A0 c0 l0 x3_1 (of_decide_eq_true (by first | (with_reducible assumption) | assumption)) (of_decide_eq_true (by first | (with_reducible assumption) | assumption)) HC0.out
            have HR222 := Aside0.mk (Kd.C_of_reads (h1 := fun _ => rfl) (hA12 _ (Kd.reads_of_C HR0.out)))
            have HC222 := Aside0.mk hC12
            clear hA12 hC12 hi012 hsz12
            have hcv13 := Kd.C_string (P := Tryd.prog) (A := A0) (c := c0) Tryd.underlying22 Tryd.underlying5 Tryd.underlying9 HR222.out
            have hcvq14 := C_string_any (P := Tryd.prog) (A := A0) (c := c0) Tryd.underlying22 Tryd.underlying5 Tryd.underlying9 HR222.out
            go_wp2
            go_ret
            exact ⟨by first | rfl | (simp; done) | (simp [*]; done), by repeat (first | exact Drawn0.refl _ | apply Drawn0.step)⟩
          · rw [if_neg c11] at H
            exact absurd H (by simp)
        · rw [if_neg c10] at H
          exact absurd H (by simp)

end Go.Proofs.YtidlgdpjcognpaaDoor.P

-- written by xprint.py (the kit's print.py, turned), out of the translation; Lean checks it.
namespace Go.Proofs.YtidlgdpjcognpaaDoor.P
open Go.Proofs.YtidlgdpjcognpaaDoor.X
open Go.RowKit Go.Proofs.YtidlgdpjcognpaaDoorW.PrintWords Go.Proofs.YtidlgdpjcognpaaDoorW.PrintLast Go.Proofs.YtidlgdpjcognpaaDoorW.PrintMore
attribute [local go_sem] max2_int min2_int max_two min_two max_three min_three max_four min_four   -- for this text's walks alone
set_option linter.unusedVariables false
set_option linter.unusedSimpArgs false

/-! ### hogsheadref12_Read: function 33 -/
def hogsheadref12_Read.l0 : Nat → List Int → ByteArray → ByteArray → Int → Int → Option (ByteArray × Int × Int × ByteArray × Bool)
  | 0, _, _, _, _, _ => none
  | k + 1, x0, x7, x8, x9, x11 => if x11 ≤ 5 then ((hogsheadref12_Lay.f k x7 x11 x9 x8).bind fun bt230 => (if bt230.2 = true then (if (strOfNums bt230.1).toList = (strOfNums x0).toList then (some (x7, x11, x9, x8, true)) else (hogsheadref12_Read.l0 k x0 x7 x8 x9 (wrap64 (x11 + 1)))) else (hogsheadref12_Read.l0 k x0 x7 x8 x9 (wrap64 (x11 + 1))))) else (some ((⟨#[]⟩ : ByteArray), 0, 0, (⟨#[]⟩ : ByteArray), false))
def hogsheadref12_Read.f (k : Nat) (l0 : List Int) : Option (ByteArray × Int × Int × ByteArray × Bool) := if (l0.length : Int) = 512 then (if 100 ≤ (l0.length : Int) then ((hogsheadref12_field.f k (l0.take 100)).bind fun t224 => (if 157 ≤ 257 then (if 257 ≤ (l0.length : Int) then ((hogsheadref12_field.f k ((l0.take 257).drop 157)).bind fun t226 => (if 124 ≤ 135 then (if 135 ≤ (l0.length : Int) then ((hogsheadref12_OfOctal.f k (strOfNums ((l0.take 135).drop 124))).bind fun bt228 => (hogsheadref12_Read.l0 k l0 t224 t226 bt228.1 1)) else (none)) else (none))) else (none)) else (none))) else (none)) else (some ((⟨#[]⟩ : ByteArray), 0, 0, (⟨#[]⟩ : ByteArray), false))
theorem hogsheadref12_Read.mono_l : ∀ k, (∀ y0 y1 y2 y3 y4, LeO (hogsheadref12_Read.l0 k y0 y1 y2 y3 y4) (hogsheadref12_Read.l0 (k + 1) y0 y1 y2 y3 y4))
  | 0 => fun _ _ _ _ _ r h => by simp [hogsheadref12_Read.l0] at h
  | k + 1 => by
    have ih0 := hogsheadref12_Read.mono_l k
    · intro y0 y1 y2 y3 y4
      unfold hogsheadref12_Read.l0
      repeat' first
      | (with_reducible exact ih0 _ _ _ _ _)
      | (with_reducible exact hogsheadref12_Lay.mono _ _ _ _ _)
      | (with_reducible exact hogsheadref12_OfOctal.mono _ _)
      | (with_reducible exact hogsheadref12_field.mono _ _)
      | (with_reducible exact LeO.refl _)
      | (with_reducible exact LeO.none _)
      | (with_reducible refine LeO.ite ?_ ?_)
      | (with_reducible refine LeO.bind ?_ (fun _ => ?_))
      | exact ih0 _ _ _ _ _
      | exact hogsheadref12_Lay.mono _ _ _ _ _
      | exact hogsheadref12_OfOctal.mono _ _
      | exact hogsheadref12_field.mono _ _
      | exact LeO.none _
      | refine LeO.ite ?_ ?_
      | refine LeO.bind ?_ (fun _ => ?_)
theorem hogsheadref12_Read.mono : ∀ a0 k, LeO (hogsheadref12_Read.f k a0) (hogsheadref12_Read.f (k + 1) a0) := by
  intro a0 k
  have ih0 := hogsheadref12_Read.mono_l k
  unfold hogsheadref12_Read.f
  repeat' first
      | (with_reducible exact ih0 _ _ _ _ _)
      | (with_reducible exact hogsheadref12_Lay.mono _ _ _ _ _)
      | (with_reducible exact hogsheadref12_OfOctal.mono _ _)
      | (with_reducible exact hogsheadref12_field.mono _ _)
      | (with_reducible exact LeO.refl _)
      | (with_reducible exact LeO.none _)
      | (with_reducible refine LeO.ite ?_ ?_)
      | (with_reducible refine LeO.bind ?_ (fun _ => ?_))
      | exact ih0 _ _ _ _ _
      | exact hogsheadref12_Lay.mono _ _ _ _ _
      | exact hogsheadref12_OfOctal.mono _ _
      | exact hogsheadref12_field.mono _ _
      | exact LeO.none _
      | refine LeO.ite ?_ ?_
      | refine LeO.bind ?_ (fun _ => ?_)
set_option maxHeartbeats 8000000 in
set_option maxRecDepth 100000 in
theorem hogsheadref12_Read.calls (k : Nat) (A0 : Option Addr) (c0 : Nat) (l0 : List Int) (r1 : ByteArray) (r2 : Int) (r3 : Int) (r4 : ByteArray) (r5 : Bool) (w : World) (hr0 : Kd.C (Kd.int .u8) w A0 l0.length l0) (hc0 : l0.length ≤ c0) (h : hogsheadref12_Read.f k l0 = some (r1, r2, r3, r4, r5)) :
    Calls Tryd.prog 33 #[.slice A0 l0.length c0] w fun e w' => e = .returned (.tuple #[.string r1, .int .i64 r2, .int .i64 r3, .string r4, .bool r5]) ∧ Below w.heap.size w w' := by
  have HR0 := Aside0.mk hr0
  have HC0 := Aside0.mk hc0
  clear hr0 hc0
  have HB := Aside0.mk (Below.refl w.heap.size w)
  have H : (if (l0.length : Int) = 512 then (if 100 ≤ (l0.length : Int) then ((hogsheadref12_field.f k (l0.take 100)).bind fun t224 => (if 157 ≤ 257 then (if 257 ≤ (l0.length : Int) then ((hogsheadref12_field.f k ((l0.take 257).drop 157)).bind fun t226 => (if 124 ≤ 135 then (if 135 ≤ (l0.length : Int) then ((hogsheadref12_OfOctal.f k (strOfNums ((l0.take 135).drop 124))).bind fun bt228 => (hogsheadref12_Read.l0 k l0 t224 t226 bt228.1 1)) else (none)) else (none))) else (none)) else (none))) else (none)) else (some ((⟨#[]⟩ : ByteArray), 0, 0, (⟨#[]⟩ : ByteArray), false))) = some (r1, r2, r3, r4, r5) := h
  clear h
  by_cases c2 : (l0.length : Int) = 512
  · rw [if_pos c2] at H
    have c2b0 : ((l0.length : Int) == 512) = true := beq_iff_eq.mpr c2
    have c2b1 : ((l0.length : Int) != 512) = false := bne_eq_false_iff_eq.mpr c2
    clear c2
    by_cases c3 : 100 ≤ (l0.length : Int)
    · rw [if_pos c3] at H
      have c3b0 := eq_true c3
      have c3b1 : decide (100 ≤ (l0.length : Int)) = true := decide_eq_true c3
      clear c3
      replace H := Option.bind_eq_some_iff.mp H
      obtain ⟨t224, A40, H⟩ := H
      replace H : (if 157 ≤ 257 then (if 257 ≤ (l0.length : Int) then ((hogsheadref12_field.f k ((l0.take 257).drop 157)).bind fun t226 => (if 124 ≤ 135 then (if 135 ≤ (l0.length : Int) then ((hogsheadref12_OfOctal.f k (strOfNums ((l0.take 135).drop 124))).bind fun bt228 => (hogsheadref12_Read.l0 k l0 t224 t226 bt228.1 1)) else (none)) else (none))) else (none)) else (none)) = some (r1, r2, r3, r4, r5) := H
      have A4 := Aside0.mk A40
      clear A40
      by_cases c5 : 157 ≤ 257
      · rw [if_pos c5] at H
        have c5b0 := eq_true c5
        have c5b1 : decide (157 ≤ 257) = true := decide_eq_true c5
        clear c5
        by_cases c6 : 257 ≤ (l0.length : Int)
        · rw [if_pos c6] at H
          have c6b0 := eq_true c6
          have c6b1 : decide (257 ≤ (l0.length : Int)) = true := decide_eq_true c6
          clear c6
          replace H := Option.bind_eq_some_iff.mp H
          obtain ⟨t226, A70, H⟩ := H
          replace H : (if 124 ≤ 135 then (if 135 ≤ (l0.length : Int) then ((hogsheadref12_OfOctal.f k (strOfNums ((l0.take 135).drop 124))).bind fun bt228 => (hogsheadref12_Read.l0 k l0 t224 t226 bt228.1 1)) else (none)) else (none)) = some (r1, r2, r3, r4, r5) := H
          have A7 := Aside0.mk A70
          clear A70
          by_cases c8 : 124 ≤ 135
          · rw [if_pos c8] at H
            have c8b0 := eq_true c8
            have c8b1 : decide (124 ≤ 135) = true := decide_eq_true c8
            clear c8
            by_cases c9 : 135 ≤ (l0.length : Int)
            · rw [if_pos c9] at H
              have c9b0 := eq_true c9
              have c9b1 : decide (135 ≤ (l0.length : Int)) = true := decide_eq_true c9
              clear c9
              replace H := Option.bind_eq_some_iff.mp H
              obtain ⟨⟨t228, t229⟩, A100, H⟩ := H
              replace H : (hogsheadref12_Read.l0 k l0 t224 t226 t228 1) = some (r1, r2, r3, r4, r5) := H
              have A10 := Aside0.mk A100
              clear A100
              have H' := Aside0.mk H
              clear H
              obtain ⟨i011, hi011, _, hsz11, _⟩ := info_parts info5
              obtain ⟨hcut11, hA11, hC11⟩ := print_take_of (P := Tryd.prog) (Value.int .u8) 0 22 5 .i64 Tryd.underlying22 hi011 hsz11 A0 c0 l0 100 (by omega) (of_decide_eq_true (by first | (with_reducible assumption) | assumption)) HC0.out
              have HR223 := Aside0.mk (Kd.C_of_reads (h1 := fun _ => rfl) (hA11 _ (Kd.reads_of_C HR0.out)))
              have HC223 := Aside0.mk hC11
              clear hA11 hC11 hi011 hsz11
              obtain ⟨i012, hi012, _, hsz12, _⟩ := info_parts info5
              obtain ⟨A12, hcut12, hA12, hC12⟩ := print_mid_of (P := Tryd.prog) (Value.int .u8) 0 22 5 .i64 .i64 Tryd.underlying22 hi012 hsz12 A0 c0 l0 157 257 (by omega) (by first | omega | exact of_decide_eq_true (by first | (with_reducible assumption) | assumption)) (of_decide_eq_true (by first | (with_reducible assumption) | assumption)) HC0.out
              have HR225 := Aside0.mk (Kd.C_of_reads (h1 := fun _ => rfl) (hA12 _ (Kd.reads_of_C HR0.out)))
              have HC225 := Aside0.mk hC12
              clear hA12 hC12 hi012 hsz12
              obtain ⟨i013, hi013, _, hsz13, _⟩ := info_parts info5
              obtain ⟨A13, hcut13, hA13, hC13⟩ := print_mid_of (P := Tryd.prog) (Value.int .u8) 0 22 5 .i64 .i64 Tryd.underlying22 hi013 hsz13 A0 c0 l0 124 135 (by omega) (by first | omega | exact of_decide_eq_true (by first | (with_reducible assumption) | assumption)) (of_decide_eq_true (by first | (with_reducible assumption) | assumption)) HC0.out
              have HR227 := Aside0.mk (Kd.C_of_reads (h1 := fun _ => rfl) (hA13 _ (Kd.reads_of_C HR0.out)))
              have HC227 := Aside0.mk hC13
              clear hA13 hC13 hi013 hsz13
              have hcv14 := Kd.C_string (P := Tryd.prog) (A := A13) (c := (c0 - 124)) Tryd.underlying22 Tryd.underlying5 Tryd.underlying9 HR227.out
              have hcvq15 := C_string_any (P := Tryd.prog) (A := A13) (c := (c0 - 124)) Tryd.underlying22 Tryd.underlying5 Tryd.underlying9 HR227.out
              go_enter Tryd.func33, Tryd.ntmps33
              go_wp2_with (first | (go_at_call 46; (with_reducible refine (hogsheadref12_field.calls k _ _ (l0.take 100) t224 _ ?side1 ?side2 A4.out).mono ?_); (case side1 => repeat (first | exact HR223.out | (with_reducible refine Kd.C_alloc ?_ _) | (with_reducible refine Kd.C_drewN ?_ _) | (with_reducible refine Kd.C_drew ?_))); (case side2 => exact HC223.out); rintro e w' ⟨rfl, ⟨nd, rfl⟩⟩; (try first | exact ⟨rfl, _, World.drewN_drewN _ _ _⟩ | exact ⟨rfl, _, Eq.trans (World.drewN_drewN _ _ _) (congrArg (World.drewN _) (Nat.add_assoc _ _ _))⟩)) | (go_at_call 46; (with_reducible refine (hogsheadref12_field.calls k _ _ ((l0.take 257).drop 157) t226 _ ?side1 ?side2 A7.out).mono ?_); (case side1 => repeat (first | exact HR225.out | (with_reducible refine Kd.C_alloc ?_ _) | (with_reducible refine Kd.C_drewN ?_ _) | (with_reducible refine Kd.C_drew ?_))); (case side2 => exact HC225.out); rintro e w' ⟨rfl, ⟨nd, rfl⟩⟩; (try first | exact ⟨rfl, _, World.drewN_drewN _ _ _⟩ | exact ⟨rfl, _, Eq.trans (World.drewN_drewN _ _ _) (congrArg (World.drewN _) (Nat.add_assoc _ _ _))⟩)) | (go_at_call 27; (with_reducible refine (hogsheadref12_OfOctal.calls k (strOfNums ((l0.take 135).drop 124)) t228 t229 _ A10.out).mono ?_); rintro e w' ⟨rfl, ⟨nd, rfl⟩⟩; (try first | exact ⟨rfl, _, World.drewN_drewN _ _ _⟩ | exact ⟨rfl, _, Eq.trans (World.drewN_drewN _ _ _) (congrArg (World.drewN _) (Nat.add_assoc _ _ _))⟩)))
              repeat (go_quiet (first | (go_at_call 46; refine calls_of_len (n' := (l0.take 100).length) (by first | rfl | simp) ?_; (with_reducible refine (hogsheadref12_field.calls k _ _ (l0.take 100) t224 _ ?side1 ?side2 A4.out).mono ?_); (case side1 => repeat (first | exact HR223.out | (with_reducible refine Kd.C_alloc ?_ _) | (with_reducible refine Kd.C_drewN ?_ _) | (with_reducible refine Kd.C_drew ?_))); (case side2 => exact HC223.out); rintro e w' ⟨rfl, ⟨nd, rfl⟩⟩; (try first | exact ⟨rfl, _, World.drewN_drewN _ _ _⟩ | exact ⟨rfl, _, Eq.trans (World.drewN_drewN _ _ _) (congrArg (World.drewN _) (Nat.add_assoc _ _ _))⟩); (try clear A4)) | (go_at_call 46; refine calls_of_len (n' := ((l0.take 257).drop 157).length) (by first | rfl | simp) ?_; (with_reducible refine (hogsheadref12_field.calls k _ _ ((l0.take 257).drop 157) t226 _ ?side1 ?side2 A7.out).mono ?_); (case side1 => repeat (first | exact HR225.out | (with_reducible refine Kd.C_alloc ?_ _) | (with_reducible refine Kd.C_drewN ?_ _) | (with_reducible refine Kd.C_drew ?_))); (case side2 => exact HC225.out); rintro e w' ⟨rfl, ⟨nd, rfl⟩⟩; (try first | exact ⟨rfl, _, World.drewN_drewN _ _ _⟩ | exact ⟨rfl, _, Eq.trans (World.drewN_drewN _ _ _) (congrArg (World.drewN _) (Nat.add_assoc _ _ _))⟩); (try clear A7)) | (go_at_call 27; (with_reducible refine (hogsheadref12_OfOctal.calls k (strOfNums ((l0.take 135).drop 124)) t228 t229 _ A10.out).mono ?_); rintro e w' ⟨rfl, ⟨nd, rfl⟩⟩; (try first | exact ⟨rfl, _, World.drewN_drewN _ _ _⟩ | exact ⟨rfl, _, Eq.trans (World.drewN_drewN _ _ _) (congrArg (World.drewN _) (Nat.add_assoc _ _ _))⟩); (try clear A10))); try go_wp2_with (first | (go_at_call 46; refine calls_of_len (n' := (l0.take 100).length) (by first | rfl | simp) ?_; (with_reducible refine (hogsheadref12_field.calls k _ _ (l0.take 100) t224 _ ?side1 ?side2 A4.out).mono ?_); (case side1 => repeat (first | exact HR223.out | (with_reducible refine Kd.C_alloc ?_ _) | (with_reducible refine Kd.C_drewN ?_ _) | (with_reducible refine Kd.C_drew ?_))); (case side2 => exact HC223.out); rintro e w' ⟨rfl, ⟨nd, rfl⟩⟩; (try first | exact ⟨rfl, _, World.drewN_drewN _ _ _⟩ | exact ⟨rfl, _, Eq.trans (World.drewN_drewN _ _ _) (congrArg (World.drewN _) (Nat.add_assoc _ _ _))⟩); (try clear A4)) | (go_at_call 46; refine calls_of_len (n' := ((l0.take 257).drop 157).length) (by first | rfl | simp) ?_; (with_reducible refine (hogsheadref12_field.calls k _ _ ((l0.take 257).drop 157) t226 _ ?side1 ?side2 A7.out).mono ?_); (case side1 => repeat (first | exact HR225.out | (with_reducible refine Kd.C_alloc ?_ _) | (with_reducible refine Kd.C_drewN ?_ _) | (with_reducible refine Kd.C_drew ?_))); (case side2 => exact HC225.out); rintro e w' ⟨rfl, ⟨nd, rfl⟩⟩; (try first | exact ⟨rfl, _, World.drewN_drewN _ _ _⟩ | exact ⟨rfl, _, Eq.trans (World.drewN_drewN _ _ _) (congrArg (World.drewN _) (Nat.add_assoc _ _ _))⟩); (try clear A7)) | (go_at_call 27; (with_reducible refine (hogsheadref12_OfOctal.calls k (strOfNums ((l0.take 135).drop 124)) t228 t229 _ A10.out).mono ?_); rintro e w' ⟨rfl, ⟨nd, rfl⟩⟩; (try first | exact ⟨rfl, _, World.drewN_drewN _ _ _⟩ | exact ⟨rfl, _, Eq.trans (World.drewN_drewN _ _ _) (congrArg (World.drewN _) (Nat.add_assoc _ _ _))⟩); (try clear A10))))
              go_loopg [11] k (fun kq v11 w' => ∃ (x11_1 : Int), v11 = .int .i64 x11_1 ∧ Aside0 (hogsheadref12_Read.l0 kq l0 t224 t226 t228 x11_1 = some (r1, r2, r3, r4, r5)) ∧ Aside0 (kq ≤ k) ∧ Aside0 (Below w.heap.size w w'))
              case atStart => exact ⟨(1), (by first | rfl | (simp; done) | (simp [*]; done)), H', ⟨Nat.le_refl _⟩, ⟨by repeat (first | (with_reducible first | exact HB.out | apply below_alloc | apply pw_below_drewN | apply below_drew1) | exact HB.out)⟩⟩
              case round =>
                clear H'
                try clear q1
                try clear hcv1
                try clear c2
                try clear c2b0
                try clear c2b1
                try clear p2
                try clear c3
                try clear c3b0
                try clear c3b1
                try clear c5
                try clear c5b0
                try clear c5b1
                try clear c6
                try clear c6b0
                try clear c6b1
                try clear c8
                try clear c8b0
                try clear c8b1
                try clear c9
                try clear c9b0
                try clear c9b1
                try clear hcv14
                try clear q15
                obtain ⟨x11_1, rfl, HA, HK1, HB⟩ := hrel
                cases gk with
                | zero => exact absurd HA.out (by simp [hogsheadref12_Read.l0])
                | succ k1 =>
                  have H := HA.out
                  clear HA
                  simp only [hogsheadref12_Read.l0] at H
                  by_cases c16 : x11_1 ≤ 5
                  · rw [if_pos c16] at H
                    have c16b0 : decide (x11_1 ≤ 5) = true := decide_eq_true c16
                    clear c16
                    replace H := Option.bind_eq_some_iff.mp H
                    obtain ⟨⟨t230, t231⟩, A170, H⟩ := H
                    replace H : (if t231 = true then (if (strOfNums t230).toList = (strOfNums l0).toList then (some (t224, x11_1, t228, t226, true)) else (hogsheadref12_Read.l0 k1 l0 t224 t226 t228 (wrap64 (x11_1 + 1)))) else (hogsheadref12_Read.l0 k1 l0 t224 t226 t228 (wrap64 (x11_1 + 1)))) = some (r1, r2, r3, r4, r5) := H
                    have A17 := Aside0.mk A170
                    clear A170
                    by_cases c18 : t231 = true
                    · subst c18
                      have H1 : (if (strOfNums t230).toList = (strOfNums l0).toList then (some (t224, x11_1, t228, t226, true)) else (hogsheadref12_Read.l0 k1 l0 t224 t226 t228 (wrap64 (x11_1 + 1)))) = some (r1, r2, r3, r4, r5) := by rw [if_pos rfl] at H; exact H
                      clear H
                      have H := H1
                      clear H1
                      by_cases c19 : (strOfNums t230).toList = (strOfNums l0).toList
                      · rw [if_pos c19] at H
                        have c19b0 : ((strOfNums t230).toList == (strOfNums l0).toList) = true := beq_iff_eq.mpr c19
                        have c19b1 : ((strOfNums t230).toList != (strOfNums l0).toList) = false := bne_eq_false_iff_eq.mpr c19
                        clear c19
                        simp only [Option.some.injEq, Prod.mk.injEq] at H
                        obtain ⟨rfl, rfl, rfl, rfl, rfl⟩ := H
                        go_wp2_with (first | (go_at_call 29; (with_reducible refine (hogsheadref12_Lay.calls k1 t224 x11_1 t228 t226 t230 true _ A17.out).mono ?_); rintro e w20 ⟨v232, rfl, ho0, hb⟩; have n0_ := Aside0.mk (Kd.R_lower ho0 (below_size (by repeat (first | (with_reducible first | exact HB.out | apply below_alloc | apply pw_below_drewN | apply below_drew1) | exact HB.out)))); have n1_ := Aside0.mk (below_step (by repeat (first | (with_reducible first | exact HB.out | apply below_alloc | apply pw_below_drewN | apply below_drew1) | exact HB.out)) hb); clear HB; have HO233 := n0_; have HB := n1_; clear n0_ n1_; (try clear hb); (try clear hb2); (try clear hk); (try clear hi); (try clear ho0); have hcv21 := own_string (P := Tryd.prog) Tryd.underlying22 Tryd.underlying5 Tryd.underlying9 (Kd.own_of_R HO233.out); have hcv22 := Kd.C_string (P := Tryd.prog) (A := A0) (c := c0) Tryd.underlying22 Tryd.underlying5 Tryd.underlying9 (Kd.C_below HR0.out HB.out); have hcvq23 := C_string_any (P := Tryd.prog) (A := A0) (c := c0) Tryd.underlying22 Tryd.underlying5 Tryd.underlying9 (Kd.C_below HR0.out HB.out)))
                        repeat (go_quiet (first | (go_at_call 29; (with_reducible refine (hogsheadref12_Lay.calls k1 t224 x11_1 t228 t226 t230 true _ A17.out).mono ?_); rintro e w20 ⟨v232, rfl, ho0, hb⟩; have n0_ := Aside0.mk (Kd.R_lower ho0 (below_size (by repeat (first | (with_reducible first | exact HB.out | apply below_alloc | apply pw_below_drewN | apply below_drew1) | exact HB.out)))); have n1_ := Aside0.mk (below_step (by repeat (first | (with_reducible first | exact HB.out | apply below_alloc | apply pw_below_drewN | apply below_drew1) | exact HB.out)) hb); clear HB; have HO233 := n0_; have HB := n1_; clear n0_ n1_; (try clear hb); (try clear hb2); (try clear hk); (try clear hi); (try clear ho0); have hcv21 := own_string (P := Tryd.prog) Tryd.underlying22 Tryd.underlying5 Tryd.underlying9 (Kd.own_of_R HO233.out); have hcv22 := Kd.C_string (P := Tryd.prog) (A := A0) (c := c0) Tryd.underlying22 Tryd.underlying5 Tryd.underlying9 (Kd.C_below HR0.out HB.out); have hcvq23 := C_string_any (P := Tryd.prog) (A := A0) (c := c0) Tryd.underlying22 Tryd.underlying5 Tryd.underlying9 (Kd.C_below HR0.out HB.out); (try clear A17))); try go_wp2_with (first | (go_at_call 29; (with_reducible refine (hogsheadref12_Lay.calls k1 t224 x11_1 t228 t226 t230 true _ A17.out).mono ?_); rintro e w20 ⟨v232, rfl, ho0, hb⟩; have n0_ := Aside0.mk (Kd.R_lower ho0 (below_size (by repeat (first | (with_reducible first | exact HB.out | apply below_alloc | apply pw_below_drewN | apply below_drew1) | exact HB.out)))); have n1_ := Aside0.mk (below_step (by repeat (first | (with_reducible first | exact HB.out | apply below_alloc | apply pw_below_drewN | apply below_drew1) | exact HB.out)) hb); clear HB; have HO233 := n0_; have HB := n1_; clear n0_ n1_; (try clear hb); (try clear hb2); (try clear hk); (try clear hi); (try clear ho0); have hcv21 := own_string (P := Tryd.prog) Tryd.underlying22 Tryd.underlying5 Tryd.underlying9 (Kd.own_of_R HO233.out); have hcv22 := Kd.C_string (P := Tryd.prog) (A := A0) (c := c0) Tryd.underlying22 Tryd.underlying5 Tryd.underlying9 (Kd.C_below HR0.out HB.out); have hcvq23 := C_string_any (P := Tryd.prog) (A := A0) (c := c0) Tryd.underlying22 Tryd.underlying5 Tryd.underlying9 (Kd.C_below HR0.out HB.out); (try clear A17))))
                        refine bodyPost_ret (results_list (rs := [.tmp 2, .tmp 3, .tmp 4, .tmp 5, .tmp 6]) rfl (by simp) (.tmp (.tmp (.tmp (.tmp (.tmp .nil)))))) rfl ?_
                        exact ⟨by first | rfl | (simp [errW_none, errW_some] <;> rfl) | (simp [*, errW_none, errW_some] <;> rfl), by repeat (first | (with_reducible first | exact HB.out | apply below_alloc | apply pw_below_drewN | apply below_drew1) | exact HB.out)⟩
                      · rw [if_neg c19] at H
                        have c19b0 : ((strOfNums t230).toList == (strOfNums l0).toList) = false := beq_eq_false_iff_ne.mpr c19
                        have c19b1 : ((strOfNums t230).toList != (strOfNums l0).toList) = true := bne_iff_ne.mpr c19
                        have H' := Aside0.mk H
                        clear H
                        go_wp2_with (first | (go_at_call 29; (with_reducible refine (hogsheadref12_Lay.calls k1 t224 x11_1 t228 t226 t230 true _ A17.out).mono ?_); rintro e w24 ⟨v232, rfl, ho0, hb⟩; have n0_ := Aside0.mk (Kd.R_lower ho0 (below_size (by repeat (first | (with_reducible first | exact HB.out | apply below_alloc | apply pw_below_drewN | apply below_drew1) | exact HB.out)))); have n1_ := Aside0.mk (below_step (by repeat (first | (with_reducible first | exact HB.out | apply below_alloc | apply pw_below_drewN | apply below_drew1) | exact HB.out)) hb); clear HB; have HO233 := n0_; have HB := n1_; clear n0_ n1_; (try clear hb); (try clear hb2); (try clear hk); (try clear hi); (try clear ho0); have hcv25 := own_string (P := Tryd.prog) Tryd.underlying22 Tryd.underlying5 Tryd.underlying9 (Kd.own_of_R HO233.out); have hcv26 := Kd.C_string (P := Tryd.prog) (A := A0) (c := c0) Tryd.underlying22 Tryd.underlying5 Tryd.underlying9 (Kd.C_below HR0.out HB.out); have hcvq27 := C_string_any (P := Tryd.prog) (A := A0) (c := c0) Tryd.underlying22 Tryd.underlying5 Tryd.underlying9 (Kd.C_below HR0.out HB.out)))
                        repeat (go_quiet (first | (go_at_call 29; (with_reducible refine (hogsheadref12_Lay.calls k1 t224 x11_1 t228 t226 t230 true _ A17.out).mono ?_); rintro e w24 ⟨v232, rfl, ho0, hb⟩; have n0_ := Aside0.mk (Kd.R_lower ho0 (below_size (by repeat (first | (with_reducible first | exact HB.out | apply below_alloc | apply pw_below_drewN | apply below_drew1) | exact HB.out)))); have n1_ := Aside0.mk (below_step (by repeat (first | (with_reducible first | exact HB.out | apply below_alloc | apply pw_below_drewN | apply below_drew1) | exact HB.out)) hb); clear HB; have HO233 := n0_; have HB := n1_; clear n0_ n1_; (try clear hb); (try clear hb2); (try clear hk); (try clear hi); (try clear ho0); have hcv25 := own_string (P := Tryd.prog) Tryd.underlying22 Tryd.underlying5 Tryd.underlying9 (Kd.own_of_R HO233.out); have hcv26 := Kd.C_string (P := Tryd.prog) (A := A0) (c := c0) Tryd.underlying22 Tryd.underlying5 Tryd.underlying9 (Kd.C_below HR0.out HB.out); have hcvq27 := C_string_any (P := Tryd.prog) (A := A0) (c := c0) Tryd.underlying22 Tryd.underlying5 Tryd.underlying9 (Kd.C_below HR0.out HB.out); (try clear A17))); try go_wp2_with (first | (go_at_call 29; (with_reducible refine (hogsheadref12_Lay.calls k1 t224 x11_1 t228 t226 t230 true _ A17.out).mono ?_); rintro e w24 ⟨v232, rfl, ho0, hb⟩; have n0_ := Aside0.mk (Kd.R_lower ho0 (below_size (by repeat (first | (with_reducible first | exact HB.out | apply below_alloc | apply pw_below_drewN | apply below_drew1) | exact HB.out)))); have n1_ := Aside0.mk (below_step (by repeat (first | (with_reducible first | exact HB.out | apply below_alloc | apply pw_below_drewN | apply below_drew1) | exact HB.out)) hb); clear HB; have HO233 := n0_; have HB := n1_; clear n0_ n1_; (try clear hb); (try clear hb2); (try clear hk); (try clear hi); (try clear ho0); have hcv25 := own_string (P := Tryd.prog) Tryd.underlying22 Tryd.underlying5 Tryd.underlying9 (Kd.own_of_R HO233.out); have hcv26 := Kd.C_string (P := Tryd.prog) (A := A0) (c := c0) Tryd.underlying22 Tryd.underlying5 Tryd.underlying9 (Kd.C_below HR0.out HB.out); have hcvq27 := C_string_any (P := Tryd.prog) (A := A0) (c := c0) Tryd.underlying22 Tryd.underlying5 Tryd.underlying9 (Kd.C_below HR0.out HB.out); (try clear A17))))
                        go_roundg k1
                        case measure => have := HK1.out; omega
                        case rel => exact ⟨(wrap64 (x11_1 + 1)), (by first | rfl | (simp; done) | (simp [*]; done)), H', ⟨by have := HK1.out; omega⟩, ⟨by repeat (first | (with_reducible first | exact HB.out | apply below_alloc | apply pw_below_drewN | apply below_drew1) | exact HB.out)⟩⟩
                    · replace c18 := Bool.eq_false_iff.mpr c18
                      subst c18
                      have H1 : (hogsheadref12_Read.l0 k1 l0 t224 t226 t228 (wrap64 (x11_1 + 1))) = some (r1, r2, r3, r4, r5) := by rw [if_neg (show ¬ (false = true) by decide)] at H; exact H
                      clear H
                      have H := H1
                      clear H1
                      have H' := Aside0.mk H
                      clear H
                      go_wp2_with (first | (go_at_call 29; (with_reducible refine (hogsheadref12_Lay.calls k1 t224 x11_1 t228 t226 t230 false _ A17.out).mono ?_); rintro e w28 ⟨v232, rfl, ho0, hb⟩; have n0_ := Aside0.mk (Kd.R_lower ho0 (below_size (by repeat (first | (with_reducible first | exact HB.out | apply below_alloc | apply pw_below_drewN | apply below_drew1) | exact HB.out)))); have n1_ := Aside0.mk (below_step (by repeat (first | (with_reducible first | exact HB.out | apply below_alloc | apply pw_below_drewN | apply below_drew1) | exact HB.out)) hb); clear HB; have HO233 := n0_; have HB := n1_; clear n0_ n1_; (try clear hb); (try clear hb2); (try clear hk); (try clear hi); (try clear ho0)))
                      repeat (go_quiet (first | (go_at_call 29; (with_reducible refine (hogsheadref12_Lay.calls k1 t224 x11_1 t228 t226 t230 false _ A17.out).mono ?_); rintro e w28 ⟨v232, rfl, ho0, hb⟩; have n0_ := Aside0.mk (Kd.R_lower ho0 (below_size (by repeat (first | (with_reducible first | exact HB.out | apply below_alloc | apply pw_below_drewN | apply below_drew1) | exact HB.out)))); have n1_ := Aside0.mk (below_step (by repeat (first | (with_reducible first | exact HB.out | apply below_alloc | apply pw_below_drewN | apply below_drew1) | exact HB.out)) hb); clear HB; have HO233 := n0_; have HB := n1_; clear n0_ n1_; (try clear hb); (try clear hb2); (try clear hk); (try clear hi); (try clear ho0); (try clear A17))); try go_wp2_with (first | (go_at_call 29; (with_reducible refine (hogsheadref12_Lay.calls k1 t224 x11_1 t228 t226 t230 false _ A17.out).mono ?_); rintro e w28 ⟨v232, rfl, ho0, hb⟩; have n0_ := Aside0.mk (Kd.R_lower ho0 (below_size (by repeat (first | (with_reducible first | exact HB.out | apply below_alloc | apply pw_below_drewN | apply below_drew1) | exact HB.out)))); have n1_ := Aside0.mk (below_step (by repeat (first | (with_reducible first | exact HB.out | apply below_alloc | apply pw_below_drewN | apply below_drew1) | exact HB.out)) hb); clear HB; have HO233 := n0_; have HB := n1_; clear n0_ n1_; (try clear hb); (try clear hb2); (try clear hk); (try clear hi); (try clear ho0); (try clear A17))))
                      go_roundg k1
                      case measure => have := HK1.out; omega
                      case rel => exact ⟨(wrap64 (x11_1 + 1)), (by first | rfl | (simp; done) | (simp [*]; done)), H', ⟨by have := HK1.out; omega⟩, ⟨by repeat (first | (with_reducible first | exact HB.out | apply below_alloc | apply pw_below_drewN | apply below_drew1) | exact HB.out)⟩⟩
                  · rw [if_neg c16] at H
                    have c16b0 : decide (x11_1 ≤ 5) = false := decide_eq_false c16
                    clear c16
                    simp only [Option.some.injEq, Prod.mk.injEq] at H
                    obtain ⟨rfl, rfl, rfl, rfl, rfl⟩ := H
                    go_wp2
                    repeat (go_quiet (fail); try go_wp2)
                    refine bodyPost_ret (results_list (rs := [.tmp 2, .tmp 3, .tmp 4, .tmp 5, .tmp 6]) rfl (by simp) (.tmp (.tmp (.tmp (.tmp (.tmp .nil)))))) rfl ?_
                    exact ⟨by first | rfl | (simp [errW_none, errW_some] <;> rfl) | (simp [*, errW_none, errW_some] <;> rfl), by repeat (first | (with_reducible first | exact HB.out | apply below_alloc | apply pw_below_drewN | apply below_drew1) | exact HB.out)⟩
            · rw [if_neg c9] at H
              exact absurd H (by simp)
          · rw [if_neg c8] at H
            exact absurd H (by simp)
        · rw [if_neg c6] at H
          exact absurd H (by simp)
      · rw [if_neg c5] at H
        exact absurd H (by simp)
    · rw [if_neg c3] at H
      exact absurd H (by simp)
  · rw [if_neg c2] at H
    have c2b0 : ((l0.length : Int) == 512) = false := beq_eq_false_iff_ne.mpr c2
    have c2b1 : ((l0.length : Int) != 512) = true := bne_iff_ne.mpr c2
    simp only [Option.some.injEq, Prod.mk.injEq] at H
    obtain ⟨rfl, rfl, rfl, rfl, rfl⟩ := H
    go_enter Tryd.func33, Tryd.ntmps33
    go_wp2
    repeat (go_quiet (fail); try go_wp2)
    refine bodyPost_ret (results_list (rs := [.tmp 2, .tmp 3, .tmp 4, .tmp 5, .tmp 6]) rfl (by simp) (.tmp (.tmp (.tmp (.tmp (.tmp .nil)))))) rfl ?_
    exact ⟨by first | rfl | (simp [errW_none, errW_some] <;> rfl) | (simp [*, errW_none, errW_some] <;> rfl), by repeat (first | (with_reducible first | exact HB.out | apply below_alloc | apply pw_below_drewN | apply below_drew1) | exact HB.out)⟩

end Go.Proofs.YtidlgdpjcognpaaDoor.P

/- What a header tells, and what its document says it tells. -/
namespace Go.Proofs.YtidlgdpjcognpaaDoor.X
open Go.RowKit Go.Proofs.YtidlgdpjcognpaaDoorW.PrintWords Go.Proofs.YtidlgdpjcognpaaDoor.P
set_option linter.unusedVariables false
set_option linter.unusedSimpArgs false

/-- bytes up to the first 0 -/
def fieldR (l : List Int) : ByteArray := strOfNums (l.takeWhile (· != 0))
theorem field_eq (l : List Int) (h : Bytes l) (hn : l.length < 4294967281) : head_field.f l = some (fieldR l) := by
  unfold head_field.f strings_Cut.f
  have e : (strOfNums l).size = l.length := by rw [strOfNums_mk, size_mk, List.length_map]
  rw [if_pos (by omega)]
  simp only [Option.bind_some]
  rw [cut_first]
  unfold fieldR
  rw [strOfNums_mk, strOfNums_mk, ← takeWhile_u8 l h]
theorem ref_field_l0 (l : List Int) (hn : l.length ≤ 1000000) : ∀ (d i : Nat), l.length - i = d → i ≤ l.length → Ev (fun k => hogsheadref12_field.l0 k l (i : Int)) (strOfNums (l.take i ++ (l.drop i).takeWhile (· != 0))) := by
  intro d
  induction d with
  | zero =>
    intro i hd hi
    refine ⟨1, fun k hk => ?_⟩
    obtain ⟨k, rfl⟩ : ∃ m, k = m + 1 := ⟨k - 1, by omega⟩
    simp only [hogsheadref12_field.l0]
    rw [if_neg (by omega), if_pos (by omega), if_pos (by omega), List.drop_eq_nil_of_le (by omega), Int.toNat_natCast, List.takeWhile_nil, List.append_nil]
  | succ d ih =>
    intro i hd hi
    have hlt : i < l.length := by omega
    obtain ⟨K, hK⟩ := ih (i + 1) (by omega) (by omega)
    refine ⟨K + 1, fun k hk => ?_⟩
    obtain ⟨k, rfl⟩ : ∃ m, k = m + 1 := ⟨k - 1, by omega⟩
    have hK := hK k (by omega)
    simp only at hK
    simp only [hogsheadref12_field.l0]
    rw [if_pos (by omega), if_pos (by omega), rd_getElem l i hlt, List.drop_eq_getElem_cons hlt, List.takeWhile_cons]
    by_cases e : l[i] = 0
    · rw [if_pos e, if_pos (by omega), if_neg (by simp [e]), Int.toNat_natCast, List.append_nil]
    · rw [if_neg e, wrap_i i l.length hlt (by omega), hK, if_pos (by simpa using e), List.take_succ_eq_append_getElem hlt, List.append_assoc]
      rfl
theorem ref_field_eq (l : List Int) (hn : l.length ≤ 1000000) : Ev (fun k => hogsheadref12_field.f k l) (fieldR l) := by
  have := ref_field_l0 l hn l.length 0 (by omega) (by omega)
  rw [List.take_zero, List.nil_append, List.drop_zero] at this
  exact this

/-! ### Read -/
def kindR (c : Int) (m : ByteArray) : Int := if c = 53 then 1 else if c = 50 then 4 else if c = 120 then 5 else if m.toList = [48, 48, 48, 48, 55, 53, 53] then 3 else 2
theorem kind_eq (c : Int) (m : ByteArray) : head_kind.f c m = some (kindR c m) := by
  unfold head_kind.f kindR
  split
  · rfl
  split
  · rfl
  split
  · rfl
  split <;> rfl
def readN (b : List Int) : ByteArray := fieldR (b.take 100)
def readL (b : List Int) : ByteArray := fieldR ((b.take 257).drop 157)
def readK (b : List Int) : Int := kindR (rd b 156) (fieldR ((b.take 108).drop 100))
def readS (b : List Int) : Int := (ofOctR (fieldR ((b.take 136).drop 124))).1
def Told (b : List Int) : Prop := b.length = 512 ∧ layR (readN b) (readK b) (readS b) (readL b) = (b, true)
instance (b : List Int) : Decidable (Told b) := by unfold Told; infer_instance
def readR (b : List Int) : ByteArray × Int × Int × ByteArray × Bool := if Told b then (readN b, readK b, readS b, readL b, true) else (⟨#[]⟩, 0, 0, ⟨#[]⟩, false)
theorem layR_Bytes (a0 : ByteArray) (a1 a2 : Int) (a3 : ByteArray) : Bytes (layR a0 a1 a2 a3).1 := by
  unfold layR
  split
  · rename_i h
    exact layB_Bytes _ _ _ _ h.1.2.1 h.1.2.2.2.1
  · intro x hx; cases hx
theorem ofOctR_range (s : ByteArray) : 0 ≤ (ofOctR s).1 ∧ (ofOctR s).1 < 9223372036854775808 := by
  unfold ofOctR
  split
  · rename_i h
    have g : ∀ (l : List UInt8) (n x : Nat) (m : Nat), octV l x = some n → x < 8 ^ m → n < 8 ^ (m + l.length) := by
      intro l
      induction l with
      | nil => intro n x m h hx; simp only [octV, Option.some.injEq] at h; subst h; exact hx
      | cons c l ih =>
        intro n x m h hx
        rw [octV] at h
        split at h
        · rename_i hc
          have := ih n _ (m + 1) h (by rw [Nat.pow_succ]; omega)
          rw [List.length_cons]
          rw [show m + 1 + l.length = m + (l.length + 1) by omega] at this
          exact this
        · cases h
    cases e : octV s.data.toList 0 with
    | none => simp
    | some n =>
      have h1 := g _ _ 0 0 e (by decide)
      have h2 : 8 ^ (0 + s.data.toList.length) ≤ 8 ^ 11 := Nat.pow_le_pow_right (by omega) (by rw [data_length]; omega)
      have h3 : (8 : Nat) ^ 11 = 8589934592 := by decide
      rw [h3] at h2
      have h4 := Nat.lt_of_lt_of_le h1 h2
      clear h1 h2 h3 e g
      simp only
      omega
  · simp
theorem read_eq (b : List Int) (h : Bytes b) : Ev (fun k => head_Read.f k b) (readR b) := by
  by_cases hl : b.length = 512
  rotate_left
  · refine ⟨0, fun k hk => ?_⟩
    show head_Read.f k b = _
    unfold head_Read.f readR
    rw [if_neg (by omega), if_neg (fun x => hl x.1)]
  obtain ⟨K1, k1⟩ := ofOctal_eq (fieldR ((b.take 136).drop 124))
  refine ⟨K1 + 1, fun k hk => ?_⟩
  have k1 := k1 k (by omega)
  obtain ⟨k, rfl⟩ : ∃ m, k = m + 1 := ⟨k - 1, by omega⟩
  simp only at k1
  have hr := (ofOctR_range (fieldR ((b.take 136).drop 124))).2
  show head_Read.f _ b = _
  unfold head_Read.f
  have f0 := field_eq (b.take 100) (h.take _) (by rw [List.length_take]; omega)
  have f1 := field_eq ((b.take 257).drop 157) ((h.take _).drop _) (by rw [List.length_drop, List.length_take]; omega)
  have f2 := field_eq ((b.take 108).drop 100) ((h.take _).drop _) (by rw [List.length_drop, List.length_take]; omega)
  have f3 := field_eq ((b.take 136).drop 124) ((h.take _).drop _) (by rw [List.length_drop, List.length_take]; omega)
  rw [if_pos (by omega), if_pos (by omega), f0]
  simp only [Option.bind_some]
  rw [if_pos (by decide), if_pos (by omega), f1]
  simp only [Option.bind_some]
  rw [if_pos (by omega), if_pos (by decide), if_pos (by omega), f2]
  simp only [Option.bind_some]
  rw [kind_eq]
  simp only [Option.bind_some]
  rw [if_pos (by decide), if_pos (by omega), f3]
  simp only [Option.bind_some]
  rw [k1]
  simp only [Option.bind_some]
  rw [lay_eq _ _ _ _ _ hr]
  simp only [Option.bind_some]
  have hb := layR_Bytes (readN b) (readK b) (readS b) (readL b)
  unfold readR
  show (if (layR (readN b) (readK b) (readS b) (readL b)).2 = true then (if (strOfNums (layR (readN b) (readK b) (readS b) (readL b)).1).toList = (strOfNums b).toList then some (readN b, readK b, readS b, readL b, true) else some (⟨#[]⟩, 0, 0, ⟨#[]⟩, false)) else some (⟨#[]⟩, 0, 0, ⟨#[]⟩, false)) = _
  by_cases e2 : (layR (readN b) (readK b) (readS b) (readL b)).2 = true
  rotate_left
  · rw [if_neg e2, if_neg (fun x => e2 (by rw [x.2]))]
  rw [if_pos e2]
  by_cases e1 : (layR (readN b) (readK b) (readS b) (readL b)).1 = b
  · rw [if_pos ((str_toList_inj _ _ hb h).2 e1), if_pos ⟨hl, Prod.ext e1 e2⟩]
  · rw [if_neg (fun x => e1 ((str_toList_inj _ _ hb h).1 x)), if_neg (fun x => e1 (by rw [x.2]))]

/-! ### what was laid is read -/
theorem slice_mid (A B C : List Int) (p q : Nat) (hA : A.length = p) (hB : p + B.length = q) : ((A ++ (B ++ C)).take q).drop p = B := by
  subst hA
  subst hB
  rw [← List.append_assoc, List.take_append_of_le_length (by rw [List.length_append]; omega), List.take_of_length_le (by rw [List.length_append]; omega), List.drop_append_of_le_length (Nat.le_refl _), List.drop_length, List.nil_append]
theorem field_pad (n : Nat) (s : ByteArray) (h : (0 : UInt8) ∉ s.data.toList) : fieldR (padS n s) = s := by
  unfold fieldR padS
  have e : (bytesOf s ++ List.replicate (n - s.size) (0 : Int)).takeWhile (· != 0) = bytesOf s := by
    have ha : ∀ x ∈ bytesOf s, (x != 0) = true := by
      intro x hx
      unfold bytesOf at hx
      obtain ⟨c, hc, rfl⟩ := List.mem_map.1 hx
      have : c ≠ 0 := fun e => h (e ▸ hc)
      have : c.toNat ≠ 0 := fun e => this (UInt8.toNat_inj.1 e)
      simp only [bne_iff_ne, ne_eq]
      omega
    rw [List.takeWhile_append_of_pos ha]
    cases n - s.size with
    | zero => simp
    | succ m => rw [List.replicate_succ, List.takeWhile_cons, if_neg (by simp), List.append_nil]
  rw [e, str_bytesOf]
theorem canon_take100 (name md dg : ByteArray) (Y : List Int) (h0 : name.size ≤ 100) : (canonA name md dg ++ Y).take 100 = padS 100 name := by
  have := slice_mid [] (padS 100 name) ((padS 8 md ++ (padS 8 z7 ++ (padS 8 z7 ++ (padS 12 dg ++ padS 12 z11)))) ++ Y) 0 100 rfl (by rw [padS_length h0])
  rw [List.drop_zero, List.nil_append, ← List.append_assoc] at this
  exact this
theorem canon_mode (name md dg : ByteArray) (Y : List Int) (h0 : name.size ≤ 100) (h1 : md.size ≤ 8) : ((canonA name md dg ++ Y).take 108).drop 100 = padS 8 md := by
  have := slice_mid (padS 100 name) (padS 8 md) ((padS 8 z7 ++ (padS 8 z7 ++ (padS 12 dg ++ padS 12 z11))) ++ Y) 100 108 (padS_length h0) (by rw [padS_length h1])
  rw [← this]
  unfold canonA
  simp only [List.append_assoc]
theorem canon_size (name md dg : ByteArray) (Y : List Int) (h0 : name.size ≤ 100) (h1 : md.size ≤ 8) (h2 : dg.size ≤ 12) : ((canonA name md dg ++ Y).take 136).drop 124 = padS 12 dg := by
  have := slice_mid (padS 100 name ++ (padS 8 md ++ (padS 8 z7 ++ padS 8 z7))) (padS 12 dg) (padS 12 z11 ++ Y) 124 136 (by simp only [List.length_append]; rw [padS_length h0, padS_length h1, padS_length (show z7.size ≤ 8 by decide)]) (by rw [padS_length h2])
  rw [← this]
  unfold canonA
  simp only [List.append_assoc]
theorem canon_size11 (name md dg : ByteArray) (Y : List Int) (h0 : name.size ≤ 100) (h1 : md.size ≤ 8) (h2 : dg.size = 11) : ((canonA name md dg ++ Y).take 135).drop 124 = bytesOf dg := by
  have := slice_mid (padS 100 name ++ (padS 8 md ++ (padS 8 z7 ++ padS 8 z7))) (bytesOf dg) (List.replicate 1 0 ++ (padS 12 z11 ++ Y)) 124 135 (by simp only [List.length_append]; rw [padS_length h0, padS_length h1, padS_length (show z7.size ≤ 8 by decide)]) (by rw [bytesOf_length, h2])
  rw [← this]
  unfold canonA
  have e : padS 12 dg = bytesOf dg ++ List.replicate 1 0 := by rw [padS, h2]
  rw [e]
  simp only [List.append_assoc]
theorem canon_sign (A C : List Int) (c : UInt8) (link : ByteArray) (hA : A.length = 148) (hC : C.length = 8) : rd (A ++ (C ++ canonB ⟨#[c]⟩ link)) 156 = (c.toNat : Int) := by
  have e : canonB ⟨#[c]⟩ link = (c.toNat : Int) :: (padS 100 link ++ (padS 8 us8 ++ List.replicate 247 0)) := rfl
  rw [e, ← List.append_assoc]
  generalize (padS 100 link ++ (padS 8 us8 ++ List.replicate 247 0)) = Y
  unfold rd
  have hl : (A ++ C).length = 156 := by rw [List.length_append]; omega
  rw [show (156 : Int).toNat = 156 from rfl, List.getD_eq_getElem?_getD, List.getElem?_append_right (by omega), hl]
  rfl
theorem canon_link (A C : List Int) (c : UInt8) (link : ByteArray) (hA : A.length = 148) (hC : C.length = 8) (h : link.size ≤ 100) : ((A ++ (C ++ canonB ⟨#[c]⟩ link)).take 257).drop 157 = padS 100 link := by
  have := slice_mid (A ++ (C ++ padS 1 ⟨#[c]⟩)) (padS 100 link) (padS 8 us8 ++ List.replicate 247 0) 157 257 (by simp only [List.length_append]; rw [padS_length (show (⟨#[c]⟩ : ByteArray).size ≤ 1 from Nat.le_refl 1)]; omega) (by rw [padS_length h])
  rw [← this]
  unfold canonB
  simp only [List.append_assoc]
theorem kind_back (a : Int) (h1 : 1 ≤ a) (h5 : a ≤ 5) : kindR ((signR a).toNat : Int) (modeR a) = a := by
  rcases kinds a h1 h5 with rfl | rfl | rfl | rfl | rfl <;> decide +kernel
theorem modeR_zero (a : Int) : (0 : UInt8) ∉ (modeR a).data.toList := by
  unfold modeR
  split
  · decide
  split <;> decide
theorem octP_digits : ∀ n u, ∀ c ∈ octP n u, c ≠ 0
  | 0, _, c, h => by cases h
  | n + 1, u, c, h => by
    rw [octP] at h
    rcases List.mem_append.1 h with h | h
    · exact octP_digits n _ c h
    · obtain rfl := List.mem_singleton.1 h
      have h8 : u % 8 < 8 := Nat.mod_lt _ (by omega)
      have := dch_oct (u % 8) h8
      intro e
      rw [e] at this
      have : (0 : UInt8).toNat = 0 := rfl
      omega
/-- What is read of what was laid, part by part. -/
theorem reads_back (a0 : ByteArray) (a1 : Int) (n : Nat) (a3 : ByteArray) (hm : MayR a0 a1 n a3) (hn : n < 8589934592) :
    readN (layB a0 a1 n a3) = a0 ∧ readK (layB a0 a1 n a3) = a1 ∧ readS (layB a0 a1 n a3) = (n : Int) ∧ readL (layB a0 a1 n a3) = a3 ∧ ofOctR (strOfNums (((layB a0 a1 n a3).take 135).drop 124)) = ((n : Int), true) := by
  have s1 : (modeR a1).size ≤ 8 := by rw [modeR_size]; omega
  have s2 : (⟨(octP 11 n).toArray⟩ : ByteArray).size ≤ 12 := by rw [size_mk, octP_length]; omega
  have s22 : (⟨(octP 11 n).toArray⟩ : ByteArray).size = 11 := by rw [size_mk, octP_length]
  have h0 := hm.2.1
  have h3 := hm.2.2.2.1
  have lA := canonA_length a0 (modeR a1) ⟨(octP 11 n).toArray⟩ h0 s1 s2
  have lC := ckOf_length (ckSum (canonA a0 (modeR a1) ⟨(octP 11 n).toArray⟩) (canonB ⟨#[signR a1]⟩ a3))
  have ho := ofOct_octP 11 n (by omega) (by omega) hn
  rw [layB_canon a0 a1 n a3 h0 h3]
  generalize ckOf (ckSum (canonA a0 (modeR a1) ⟨(octP 11 n).toArray⟩) (canonB ⟨#[signR a1]⟩ a3)) = C at *
  unfold readN readK readS readL
  rw [canon_take100 _ _ _ _ h0, canon_mode _ _ _ _ h0 s1, canon_size _ _ _ _ h0 s1 s2, canon_size11 _ _ _ _ h0 s1 s22, canon_sign _ _ _ _ lA lC, canon_link _ _ _ _ lA lC h3, field_pad _ _ hm.2.2.1, field_pad _ _ (modeR_zero a1), field_pad _ _ (fun x => octP_digits 11 n 0 x rfl), field_pad _ _ hm.2.2.2.2.1, kind_back a1 hm.2.2.2.2.2.1 hm.2.2.2.2.2.2.1, str_bytesOf, ho]
  exact ⟨rfl, rfl, rfl, rfl, rfl⟩
theorem layR_true {a0 : ByteArray} {a1 a2 : Int} {a3 : ByteArray} {b : List Int} (h : layR a0 a1 a2 a3 = (b, true)) : ∃ n : Nat, a2 = n ∧ MayR a0 a1 n a3 ∧ n < 8589934592 ∧ b = layB a0 a1 n a3 := by
  unfold layR at h
  split at h
  · rename_i hc
    obtain ⟨n, rfl⟩ := Int.eq_ofNat_of_zero_le hc.2.1
    exact ⟨n, rfl, hc.1, by have := hc.2.2; omega, ((Prod.mk.inj h).1).symm⟩
  · cases (Prod.mk.inj h).2
theorem readR_of_lay {a0 : ByteArray} {a1 a2 : Int} {a3 : ByteArray} {b : List Int} (h : layR a0 a1 a2 a3 = (b, true)) : readR b = (a0, a1, a2, a3, true) ∧ ofOctR (strOfNums ((b.take 135).drop 124)) = (a2, true) ∧ b.length = 512 ∧ readN b = a0 ∧ readL b = a3 := by
  obtain ⟨n, hn2, hm, hn, hb⟩ := layR_true h
  have hall := reads_back a0 a1 n a3 hm hn
  have hl := layB_length a0 a1 n a3 hm.2.1 hm.2.2.2.1
  rw [← hb] at hall hl
  rw [← hn2] at hall
  clear hb
  obtain ⟨e0, e1, e2, e3, e4⟩ := hall
  refine ⟨?_, e4, hl, e0, e3⟩
  have ht : Told b := by
    refine ⟨hl, ?_⟩
    rw [e0, e1, e2, e3]
    exact h
  unfold readR
  rw [if_pos ht, e0, e1, e2, e3]
theorem readR_true {b : List Int} {a0 : ByteArray} {a1 a2 : Int} {a3 : ByteArray} (h : readR b = (a0, a1, a2, a3, true)) : layR a0 a1 a2 a3 = (b, true) := by
  unfold readR at h
  split at h
  · rename_i ht
    simp only [Prod.mk.injEq] at h
    obtain ⟨rfl, rfl, rfl, rfl, _⟩ := h
    exact ht.2
  · simp only [Prod.mk.injEq] at h
    cases h.2.2.2.2
theorem readR_or (b : List Int) : readR b = (⟨#[]⟩, 0, 0, ⟨#[]⟩, false) ∨ ∃ a0 a1 a2 a3, readR b = (a0, a1, a2, a3, true) := by
  unfold readR
  split
  · exact Or.inr ⟨_, _, _, _, rfl⟩
  · exact Or.inl rfl

theorem ref_read_l0 (b : List Int) (h : Bytes b) (n : Int) (hn : n = (ofOctR (strOfNums ((b.take 135).drop 124))).1) : ∀ (d : Nat) (j : Int), 6 - j = d → 1 ≤ j → (∀ i, 1 ≤ i → i < j → layR (readN b) i n (readL b) ≠ (b, true)) →
    Ev (fun k => hogsheadref12_Read.l0 k b (readN b) (readL b) n j) (readR b) := by
  have hr : n < 9223372036854775808 := by rw [hn]; exact (ofOctR_range _).2
  intro d
  induction d with
  | zero =>
    intro j hd h1 hno
    refine ⟨1, fun k hk => ?_⟩
    obtain ⟨k, rfl⟩ : ∃ m, k = m + 1 := ⟨k - 1, by omega⟩
    simp only [hogsheadref12_Read.l0]
    rw [if_neg (by omega)]
    rcases readR_or b with e | ⟨a0, a1, a2, a3, e⟩
    · rw [e]
    · have hl := readR_true e
      obtain ⟨_, e2, _, e3, e4⟩ := readR_of_lay hl
      obtain ⟨m, _, hm, _, _⟩ := layR_true hl
      exact absurd (by rw [hn, e2, e3, e4]; exact hl) (hno a1 hm.2.2.2.2.2.1 (by have := hm.2.2.2.2.2.2.1; omega))
  | succ d ih =>
    intro j hd h1 hno
    obtain ⟨K1, k1⟩ := ref_lay_eq (readN b) j n (readL b) hr
    by_cases e : layR (readN b) j n (readL b) = (b, true)
    · refine ⟨K1 + 1, fun k hk => ?_⟩
      obtain ⟨k, rfl⟩ : ∃ m, k = m + 1 := ⟨k - 1, by omega⟩
      have k1 := k1 k (by omega)
      simp only at k1
      simp only [hogsheadref12_Read.l0]
      rw [if_pos (by omega), k1, e]
      simp only [Option.bind_some, if_true]
      rw [(readR_of_lay e).1]
    · obtain ⟨K2, k2⟩ := ih (j + 1) (by omega) (by omega) (fun i hi1 hi2 => by
        by_cases ei : i = j
        · rw [ei]; exact e
        · exact hno i hi1 (by omega))
      refine ⟨K1 + K2 + 1, fun k hk => ?_⟩
      obtain ⟨k, rfl⟩ : ∃ m, k = m + 1 := ⟨k - 1, by omega⟩
      have k1 := k1 k (by omega)
      have k2 := k2 k (by omega)
      simp only at k1 k2
      have ew : wrap64 (j + 1) = j + 1 := by unfold wrap64; omega
      simp only [hogsheadref12_Read.l0]
      rw [if_pos (by clear ew; omega), k1, ew, k2]
      simp only [Option.bind_some]
      by_cases e2 : (layR (readN b) j n (readL b)).2 = true
      · rw [if_pos e2, if_neg (fun x => e (Prod.ext ((str_toList_inj _ _ (layR_Bytes _ _ _ _) h).1 x) e2))]
      · rw [if_neg e2]
theorem ref_read_eq (b : List Int) (h : Bytes b) : Ev (fun k => hogsheadref12_Read.f k b) (readR b) := by
  by_cases hl : b.length = 512
  rotate_left
  · refine ⟨0, fun k hk => ?_⟩
    show hogsheadref12_Read.f k b = _
    unfold hogsheadref12_Read.f readR
    rw [if_neg (by omega), if_neg (fun x => hl x.1)]
  obtain ⟨K1, k1⟩ := ref_ofOctal_eq (strOfNums ((b.take 135).drop 124))
  obtain ⟨K2, k2⟩ := ref_field_eq (b.take 100) (by rw [List.length_take]; omega)
  obtain ⟨K3, k3⟩ := ref_field_eq ((b.take 257).drop 157) (by rw [List.length_drop, List.length_take]; omega)
  obtain ⟨K4, k4⟩ := ref_read_l0 b h _ rfl 5 1 (by omega) (by omega) (fun i h1 h2 => by omega)
  refine ⟨K1 + K2 + K3 + K4, fun k hk => ?_⟩
  have k1 := k1 k (by omega)
  have k2 := k2 k (by omega)
  have k3 := k3 k (by omega)
  have k4 := k4 k (by omega)
  simp only at k1 k2 k3 k4
  show hogsheadref12_Read.f k b = _
  unfold hogsheadref12_Read.f
  rw [if_pos (by omega), if_pos (by omega), k2]
  simp only [Option.bind_some]
  rw [if_pos (by decide), if_pos (by omega), k3]
  simp only [Option.bind_some]
  rw [if_pos (by decide), if_pos (by omega), k1]
  simp only [Option.bind_some]
  exact k4
end Go.Proofs.YtidlgdpjcognpaaDoor.X

/- LendBytes and KeptBytes, walked by hand: a copy with spare room that is marked; is it as it was? -/
namespace Go.Proofs.YtidlgdpjcognpaaDoor.X
open Go.RowKit Go.Proofs.YtidlgdpjcognpaaDoorW.PrintWords Go.Proofs.YtidlgdpjcognpaaDoor.P
set_option linter.unusedVariables false
set_option linter.unusedSimpArgs false
variable {α : Type}

/-- Block g holds xs, and m marks behind them; its room is cap. -/
def LentTo (e : Nat) (enc : α → Value) (mark : Value) (W : World) (g cap : Nat) (xs : List α) (m : Nat) : Prop :=
  ∃ cells : Array Value, W.heap[g]? = some (.cells cells e (0, 0)) ∧ cells.size = cap ∧ cap = xs.length + 3 ∧ (∀ (j : Nat) x, xs[j]? = some x → cells[j]? = some (enc x)) ∧ (∀ j, j < m → cells[xs.length + j]? = some mark)
theorem LentTo.below {e : Nat} {enc : α → Value} {mark : Value} {W W1 : World} {g cap m : Nat} {xs : List α} (h : LentTo e enc mark W g cap xs m) (hb : Below W.heap.size W W1) : LentTo e enc mark W1 g cap xs m := by
  obtain ⟨cells, hg, h1⟩ := h
  have hlt : g < W.heap.size := (Array.getElem?_eq_some_iff.1 hg).1
  exact ⟨cells, (hb.block g hlt).trans hg, h1⟩
theorem LentTo.reads {e : Nat} {k : IntKind} {mark : Value} {W : World} {g cap m : Nat} {xs : List Int} (h : LentTo e (Value.int k) mark W g cap xs m) (hm : xs.length ≤ 9223372036854775807) : (Kd.int k).C W (some ⟨g, 0, none⟩) xs.length xs := by
  obtain ⟨cells, hg, h1, h2, h3, h4⟩ := h
  refine Kd.C_of_reads (d := (0 : Int)) (h1 := fun _ => rfl) ⟨rfl, hm, fun _ => ⟨_, rfl, fun j hj => ?_⟩⟩
  rw [add_plain]
  have h5 := h3 j (xs.getD j 0) (by rw [List.getD_eq_getElem?_getD, List.getElem?_eq_getElem hj]; rfl)
  simp [World.cell?, hg, h5]
theorem LentTo.room {e : Nat} {enc : α → Value} {mark : Value} {W : World} {g cap m : Nat} {xs : List α} (h : LentTo e enc mark W g cap xs m) : xs.length ≤ cap := by
  obtain ⟨cells, hg, h1, h2, h3⟩ := h
  omega
theorem LentTo.mark_cell {e : Nat} {enc : α → Value} {mark : Value} {W : World} {g cap m : Nat} {xs : List α} (h : LentTo e enc mark W g cap xs m) {j : Nat} (hj : j < m) : W.cell? ⟨g, xs.length + j, none⟩ = some mark := by
  obtain ⟨cells, hg, h1, h2, h3, h4⟩ := h
  simp [World.cell?, hg, h4 j hj]
/-- One mark more. -/
theorem LentTo.put {e : Nat} {enc : α → Value} {mark : Value} {W : World} {g cap m : Nat} {xs : List α} (h : LentTo e enc mark W g cap xs m) (hm : m < 3) : LentTo e enc mark (W.setCell ⟨g, xs.length + m, none⟩ mark) g cap xs (m + 1) := by
  obtain ⟨cells, hg, h1, h2, h3, h4⟩ := h
  refine ⟨cells.setIfInBounds (xs.length + m) mark, ?_, by simp [h1], h2, fun j x hj => ?_, fun j hj => ?_⟩
  · have hlt : g < W.heap.size := (Array.getElem?_eq_some_iff.1 hg).1
    have hge : W.heap[g] = .cells cells e (0, 0) := by have := (Array.getElem?_eq_some_iff.1 hg).2; exact this
    simp [World.setCell, Array.getElem?_modify, hg]
  · have hl : j < xs.length := (List.getElem?_eq_some_iff.1 hj).1
    rw [Array.getElem?_setIfInBounds_ne (by omega)]; exact h3 j x hj
  · by_cases hjm : j = m
    · subst hjm; rw [Array.getElem?_setIfInBounds]; simp; omega
    · rw [Array.getElem?_setIfInBounds_ne (by omega)]; exact h4 j (by omega)
theorem LentTo.cell_any {e : Nat} {enc : α → Value} {mark : Value} {W : World} {g cap m : Nat} {xs : List α} (h : LentTo e enc mark W g cap xs m) {j : Nat} (hj : j < cap) : ∃ v, W.cell? ⟨g, j, none⟩ = some v := by
  obtain ⟨cells, hg, h1, h2, h3, h4⟩ := h
  exact ⟨cells[j]'(by omega), by simp [World.cell?, hg]⟩
theorem LentTo.unfrozen {e : Nat} {enc : α → Value} {mark : Value} {W : World} {g cap m : Nat} {xs : List α} (h : LentTo e enc mark W g cap xs m) (j : Nat) : W.frozen? ⟨g, j, none⟩ = false := by
  obtain ⟨cells, hg, _⟩ := h
  simp [World.frozen?, hg]

/-- What is copied into a room that was just made. -/
theorem lent_append (w : World) (A0 : Option Addr) (c0 : Nat) (l0 : List Int) (hr0 : (Kd.int .u8).C w A0 l0.length l0) :
    ∃ W2, (Builtin.append_ #[22, 22] 22 #[.slice (some ⟨w.heap.size, 0, none⟩) 0 (l0.length + 3), .slice A0 l0.length c0]).run Tryd.prog (w.alloc (.cells (madeCells #[.int .u8 0] (l0.length + 3)) 5)) = .ok (.slice (some ⟨w.heap.size, 0, none⟩) l0.length (l0.length + 3)) W2 ∧
      LentTo 5 (Value.int .u8) (.int .u8 119) W2 w.heap.size (l0.length + 3) l0 0 ∧ Below w.heap.size w W2 := by
  have hsz : ∀ n, (madeCells #[Value.int .u8 0] n).size = n := fun n => by simp [madeCells]
  have hnew : (w.alloc (.cells (madeCells #[.int .u8 0] (l0.length + 3)) 5)).heap[w.heap.size]? = some (.cells (madeCells #[.int .u8 0] (l0.length + 3)) 5 (0, 0)) := by simp [World.alloc, -World.alloc_eq]
  have hB := (Below.refl w.heap.size w).alloc (Nat.le_refl _) (.cells (madeCells #[.int .u8 0] (l0.length + 3)) 5)
  obtain ⟨i0, hi, hz0, hz1, hz2⟩ := info_parts (show (Tryd.prog.info? 5).map (fun i => (i.zero, i.size, i.bytes)) = some (some (.int .u8 0), 1, 1) by kernel_rfl)
  cases A0 with
  | none =>
    have h0 : l0 = [] := by
      rcases l0 with _ | ⟨x, l⟩
      · rfl
      · obtain ⟨ad, e, _⟩ := hr0.2.2 (by simp)
        cases e
    subst h0
    refine ⟨_, ?_, ⟨_, hnew, by rw [hsz], rfl, by simp, fun j hj => by omega⟩, hB⟩
    simp [Builtin.append_, run_underlying Tryd.underlying22, sizeOf, typeInfo, hi, Builtin.lenOf, run_firstCells_none, storeCells]
  | some ad =>
    obtain ⟨news, hnr, hnc⟩ := ReadsRow.inner_ hr0
    have hnl : news.length = l0.length := by have := hnr.1; rw [this]; show l0.length * 1 = _; omega
    have hone : ∀ u ∈ news, u.oneCell' = true := by
      intro u hu
      obtain ⟨j, hj, rfl⟩ := List.mem_iff_getElem.1 hu
      have hjl : j < l0.length := by omega
      have h2 := hnr.2 j _ (List.getElem?_eq_getElem hjl)
      have h3 : List.take 1 (List.drop (j * 1) news) = [.int .u8 l0[j]] := h2
      have h4 : news[j]? = some (.int .u8 l0[j]) := by
        have := congrArg (fun l => l[0]?) h3
        simpa using this
      rw [List.getElem?_eq_getElem hj] at h4
      have h5 : news[j] = .int .u8 l0[j] := by simpa using h4
      rw [h5]; rfl
    have hat : ∀ (j : Nat) x, l0[j]? = some x → news[j]? = some (.int .u8 x) := by
      intro j x hx
      have h2 := hnr.2 j _ hx
      have h3 : List.take 1 (List.drop (j * 1) news) = [.int .u8 x] := h2
      have := congrArg (fun l => l[0]?) h3
      simpa using this
    have hrun := run_append_room (P := Tryd.prog) (w.alloc (.cells (madeCells #[.int .u8 0] (l0.length + 3)) 5)) 22 22 5 i0 Tryd.underlying22 hi w.heap.size 0 (l0.length + 3) _ hnew ad l0.length c0 news (by rw [hz1, hnl]; omega) (fun j u hu => pw_cell_below hB (hnc j u hu)) hone (by omega) (by rw [hnl, hsz]; omega)
    simp only [Nat.zero_mul, Nat.zero_add, List.take_zero, List.nil_append] at hrun
    refine ⟨_, hrun, ?_, ?_⟩
    · refine ⟨(news ++ (madeCells #[Value.int .u8 0] (l0.length + 3)).toList.drop news.length).toArray, ?_, ?_, rfl, ?_, fun j hj => by omega⟩
      · simp only [World.setRow, Array.getElem?_modify, hnew]; simp
      · simp [hsz, hnl]
      · intro j x hx
        have h1 := hat j x hx
        have hj : j < news.length := (List.getElem?_eq_some_iff.1 h1).1
        simp only [List.getElem?_toArray]
        rw [List.getElem?_append_left hj]
        exact h1
    · refine ⟨rfl, rfl, rfl, by simp [World.setRow, World.alloc, -World.alloc_eq], fun i hi2 => ?_⟩
      have hne : ¬ w.heap.size = i := by omega
      simp [World.setRow, Array.getElem?_modify, World.alloc, -World.alloc_eq, hne, Array.getElem?_push, Ne.symm hne]

/-! ### LendBytes -/
set_option maxHeartbeats 1600000 in
set_option maxRecDepth 100000 in
theorem lendBytes_calls (A0 : Option Addr) (c0 : Nat) (l0 : List Int) (w : World) (hr0 : (Kd.int .u8).C w A0 l0.length l0) (hl : l0.length ≤ 1000000000) :
    Calls Tryd.prog 12 #[.slice A0 l0.length c0] w fun e w' => ∃ g cap : Nat, e = .returned (.slice (some ⟨g, 0, none⟩) l0.length cap) ∧ LentTo 5 (Value.int .u8) (.int .u8 119) w' g cap l0 3 ∧ w.heap.size ≤ g ∧ Below w.heap.size w w' := by
  obtain ⟨W2, hap, hL, hB⟩ := lent_append w A0 c0 l0 hr0
  obtain ⟨n, hn⟩ : ∃ n, l0.length = n := ⟨_, rfl⟩
  have HN := Aside0.mk hn
  rw [hn] at hl hr0 hap hL ⊢
  clear hr0
  have HL := Aside0.mk hL
  have HB := Aside0.mk hB
  have HP := Aside0.mk hap
  clear hn hL hB hap
  have hmk : ∀ W : World, (Instr.makeSlice 22 (.int .i64 0) (.int .i64 ((n : Int) + 3))).run Tryd.prog W = .ok (.slice (some ⟨W.heap.size, 0, none⟩) 0 (n + 3)) (W.alloc (.cells (madeCells #[.int .u8 0] (n + 3)) 5)) := by
    intro W
    obtain ⟨i0, hi, hz0, hz1, hz2⟩ := info_parts (show (Tryd.prog.info? 5).map (fun i => (i.zero, i.size, i.bytes)) = some (some (.int .u8 0), 1, 1) by kernel_rfl)
    have h := run_make (P := Tryd.prog) W 22 5 i0 (.int .u8 0) Tryd.underlying22 hi hz0 .i64 .i64 0 ((n : Int) + 3) (by omega) (by omega) (by rw [hz2]; omega) (by omega)
    have e1 : ((n : Int) + 3).toNat = n + 3 := by omega
    simp only [e1, hz1, Nat.mul_one] at h
    exact h
  go_enter Tryd.func12, Tryd.ntmps12
  go_wp2_with (at_builtin; refine wpList_append_run rfl _ _ 22 22 rfl _ _ _ W2 rfl rfl HP.out ?_)
  have e3 : n + 3 - n = 3 := by omega
  simp only [e3]
  clear e3 hmk HP
  go_loopw [5] (fun vi wr => ∃ k : Nat, k ≤ 3 ∧ vi = .int .i64 k ∧ Aside0 (LentTo 5 (Value.int .u8) (.int .u8 119) wr w.heap.size (n + 3) l0 k) ∧ Aside0 (Below w.heap.size w wr)) (fun vi _ => 3 - (intOf vi).toNat)
  case atStart => exact ⟨0, by omega, rfl, HL, HB⟩
  case round =>
    clear HL HB
    obtain ⟨k, hk, rfl, HL, HB⟩ := hrel
    by_cases hlt : k < 3
    · obtain ⟨v, hv⟩ := HL.out.cell_any (j := n + k) (by omega)
      have hfz := HL.out.unfrozen (n + k)
      go_wp2
      go_roundw
      case rel => exact ⟨k + 1, by omega, by go_num, ⟨by have := HL.out.put hlt; rw [HN.out] at this; exact this⟩, ⟨below_set HB.out (Nat.le_refl _)⟩⟩
      case measure => simp [intOf]; omega
    · have hk3 : k = 3 := by omega
      subst hk3
      go_wp2
      go_ret
      exact ⟨_, _, rfl, HL.out, Nat.le_refl _, HB.out⟩

/-! ### KeptBytes -/
set_option maxHeartbeats 1600000 in
set_option maxRecDepth 100000 in
theorem keptBytes_calls (k : Nat) (g cap : Nat) (l0 : List Int) (A1 : Option Addr) (c1 : Nat) (l1 : List Int) (r : Bool) (w : World) (hL : LentTo 5 (Value.int .u8) (.int .u8 119) w g cap l0 3) (hl : l0.length ≤ 1000000000) (hr1 : (Kd.int .u8).C w A1 l1.length l1) (hc1 : l1.length ≤ c1)
    (h : hogsheadlaw0_SameBytes.f k l0 l1 = some r) :
    Calls Tryd.prog 21 #[.slice (some ⟨g, 0, none⟩) l0.length cap, .slice A1 l1.length c1] w fun e w' => e = .returned (.bool r) ∧ Drawn0 w w' := by
  obtain ⟨n, hn⟩ : ∃ n, l0.length = n := ⟨_, rfl⟩
  have hcap : cap = n + 3 := by obtain ⟨_, _, _, h1, _⟩ := hL; omega
  subst hcap
  have HN := Aside0.mk hn
  have HL := Aside0.mk hL
  have HR := Aside0.mk hr1
  have HC := Aside0.mk hc1
  have HS := Aside0.mk h
  rw [hn] at hl ⊢
  clear hn hL hr1 hc1 h
  go_enter Tryd.func21, Tryd.ntmps21
  go_wp2
  have e3 : n + 3 - n = 3 := by omega
  simp only [e3]
  clear e3
  go_loopw [6] (fun vi wr => ∃ k : Nat, k ≤ 3 ∧ vi = .int .i64 k ∧ Drawn0 w wr) (fun vi _ => 3 - (intOf vi).toNat)
  case atStart => exact ⟨0, by omega, rfl, Drawn0.refl _⟩
  case round =>
    obtain ⟨k, hk, rfl, ⟨m, rfl⟩⟩ := hrel
    by_cases hlt : k < 3
    · have hv := HL.out.mark_cell hlt
      rw [HN.out] at hv
      go_wp2
      go_roundw
      case rel => exact ⟨k + 1, by omega, by go_num, by repeat (first | exact Drawn0.refl _ | apply Drawn0.step)⟩
      case measure => simp [intOf]; omega
    · have hk3 : k = 3 := by omega
      subst hk3
      go_wp2_with fail
      have hlen := HN.out
      rw [← hlen]
      refine (hogsheadlaw0_SameBytes.calls k _ _ l0 _ _ l1 r _ (Kd.C_below (HL.out.reads (by omega)) (pw_below_drewN (Below.refl _ _) m)) (by omega) (Kd.C_below HR.out (pw_below_drewN (Below.refl _ _) m)) HC.out HS.out).mono ?_
      rintro e w2 ⟨rfl, hd⟩
      have HD := Aside0.mk hd
      clear hd hlen
      go_wp2
      go_ret
      exact ⟨rfl, by obtain ⟨m2, rfl⟩ := HD.out; exact (Drawn0.refl _).step m |>.step m2⟩
end Go.Proofs.YtidlgdpjcognpaaDoor.X

/- HeadReads, walked: every input, the program's tables in place: true; what was there is as it was. -/
namespace Go.Proofs.YtidlgdpjcognpaaDoor.X
open Go.RowKit Go.Proofs.YtidlgdpjcognpaaDoorW.PrintWords Go.Proofs.YtidlgdpjcognpaaDoor.P
set_option linter.unusedVariables false
set_option linter.unusedSimpArgs false

set_option maxHeartbeats 4000000 in
set_option maxRecDepth 100000 in
theorem headReads_calls (A0 : Option Addr) (c0 : Nat) (l0 : List Int) (w : World) (hT : Aside0 (Tabs w)) (hr0 : (Kd.int .u8).C w A0 l0.length l0) (hc0 : l0.length ≤ c0) (hl : Bytes l0) (hm : l0.length ≤ 9223372036854775807) :
    Calls Tryd.prog 8 #[.slice A0 l0.length c0] w fun e w' => e = .returned (.bool true) ∧ Below w.heap.size w w' := by
  obtain ⟨K1, k1⟩ := awake12_eq
  by_cases hlong : 600 < l0.length
  · have HA := Aside0.mk (k1 K1 (Nat.le_refl _))
    clear hr0 k1
    go_enter Tryd.func8, Tryd.ntmps8
    go_wp2_with (go_at_call 23; refine (hogsheadlaw12_awake.calls K1 true _ hT HA.out).mono ?_; rintro e w' ⟨rfl, hb⟩)
    go_ret
    exact ⟨rfl, hb⟩
  · obtain ⟨K2, k2⟩ := read_eq l0 hl
    obtain ⟨K3, k3⟩ := ref_read_eq l0 hl
    obtain ⟨K4, k4⟩ := sameBytes_eq l0 l0 hm
    obtain ⟨k, hk⟩ : ∃ k, k = K1 + K2 + K3 + K4 := ⟨_, rfl⟩
    rcases hR : readR l0 with ⟨n, kd, sz, lk, ok⟩
    rw [hR] at k2 k3
    rw [decide_eq_true rfl] at k4
    have HAw := Aside0.mk (k1 k (by omega))
    have HRe := Aside0.mk (k2 k (by omega))
    have HRr := Aside0.mk (k3 k (by omega))
    have HSb := Aside0.mk (k4 k (by omega))
    have HR0 := Aside0.mk hr0
    have HC0 := Aside0.mk hc0
    have hl5 : l0.length ≤ 600 := by omega
    clear k1 k2 k3 k4 hk hr0 hc0 hm hR hl
    go_enter Tryd.func8, Tryd.ntmps8
    go_wp2_with (first | (go_at_call 12; refine (lendBytes_calls A0 c0 l0 _ HR0.out (by omega)).mono ?_; rintro e w1 ⟨g, cap, rfl, hL, hg, hb⟩; have HL := Aside0.mk hL; have HG := Aside0.mk hg; have HB0 := Aside0.mk hb; clear hL hg hb; have HT1 : Aside0 (Tabs w1) := ⟨Tabs.below hT.out HB0.out⟩; have HR1 : Aside0 ((Kd.int .u8).C w1 A0 l0.length l0) := ⟨Kd.C_below HR0.out HB0.out⟩) | (go_at_call 32; refine (head_Read.calls k _ _ l0 n kd sz lk ok _ HT1 (LentTo.reads HL.out (by omega)) (LentTo.room HL.out) HRe.out).mono ?_; rintro e w2 ⟨rfl, hb⟩; have HB2 := Aside0.mk hb; clear hb) | (go_at_call 33; refine (hogsheadref12_Read.calls k _ _ l0 n kd sz lk ok _ (Kd.C_below HR1.out HB2.out) HC0.out HRr.out).mono ?_; rintro e w3 ⟨rfl, hb⟩; have HB3 := Aside0.mk (below_step HB2.out hb); clear hb))
    go_wp2_with (first | (go_at_call 21; refine (keptBytes_calls k g cap l0 _ _ l0 true _ ?s1 (by omega) ?s2 HC0.out HSb.out).mono ?_; (case s1 => exact LentTo.below HL.out (by repeat (first | (with_reducible first | exact HB3.out | apply below_alloc | apply pw_below_drewN | apply below_drew1) | exact HB3.out))); (case s2 => exact Kd.C_below HR1.out (by repeat (first | (with_reducible first | exact HB3.out | apply below_alloc | apply pw_below_drewN | apply below_drew1) | exact HB3.out))); rintro e wn ⟨rfl, ⟨nd, rfl⟩⟩) | (go_at_call 23; refine (hogsheadlaw12_awake.calls k true _ ?s1 HAw.out).mono ?_; (case s1 => exact ⟨Tabs.below HT1.out (by repeat (first | (with_reducible first | exact HB3.out | apply below_alloc | apply pw_below_drewN | apply below_drew1) | exact HB3.out))⟩); rintro e wn ⟨rfl, hb⟩; have n0_ := Aside0.mk (below_step (by repeat (first | (with_reducible first | exact HB3.out | apply below_alloc | apply pw_below_drewN | apply below_drew1) | exact HB3.out)) hb); clear HB3 hb; have HB3 := n0_; clear n0_))
    all_goals (go_ret; exact ⟨rfl, below_step HB0.out (by repeat (first | (with_reducible first | exact HB3.out | apply below_alloc | apply pw_below_drewN | apply below_drew1) | exact HB3.out))⟩)
end Go.Proofs.YtidlgdpjcognpaaDoor.X
