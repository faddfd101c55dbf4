/- Part 3 of what is behind the row RowUntarTurned: XPQ, XCN, XJA, XUA, XUC, XUD, XUE, XRU, XRK, XRN, XUF, XUG, XUH, XUB, XUI, Pe0, Pf23, Pf37, XUJ, XCG, XUK, XCI, XUM. -/
import Derived.Test.YtdijnmcfpbceaaaGreatDoorMUT2
import Derived.Test.YtdijnmcfpbceaaaGreatDoorProg
import Derived.Below
import Derived.Deep.Draws
import Derived.Deep.AppendLies
import Derived.Maps.AppendAt
import Derived.OwnWalk
import Derived.Laws.BytesArg
import Derived.Laws.MakeOwn
import Derived.Laws.OwnMore
import Derived.Deep.OwnRows
import Derived.Tactics
import Derived.Lib.ConvBytes
import Derived.Laws.Slices
import Derived.WalkKit
import Derived.KernelRfl
import Derived.RowKit3
import Derived.Deep.LoopGhost
import Derived.Deep.QuietTactic
import Derived.BigQuiet
import Derived.WideLaws
import Derived.Deep.DeepCutAuto
import Derived.Deep.CutBlock
import Derived.Deep.RegionHeld3
import Derived.Laws.Rows
import Derived.Lib.AppendStr
import Derived.ArgAppend
import Derived.Laws.IdiomCopy
import Derived.OrdersHeld
import Derived.Laws.BitsLemmas
import Derived.RowKit
import Derived.Laws.Cover1
import Derived.Laws.StructEq
import Derived.Lib.ItoaNum
import Derived.Lib.ItoaMem
import Derived.Lib.BufferWrite
import Derived.Laws.CopyOwn
import Derived.Outline
import Derived.WalkLawsBesides
import Derived.WalkSpells
import Derived.LoopTactic
import Derived.Lib.Hide
import Derived.Laws.Bits64b
import Derived.Laws.NewBlocks
import Derived.Lib.AppendIntMem
import Derived.Shelf.Strings.Builder1
import Derived.Shelf.Strings.Builder2
import Derived.Shelf.Small.Utf8
import Derived.Shelf.Small.Strs
import Derived.Shelf.Strings.BuilderF
import Derived.Shelf.Strings.BuilderK
import Derived.Shelf.Utf8.RuneCount
import Derived.Shelf.Strconv.Atoi
import Derived.Shelf.Strconv.Itoa0
import Derived.Shelf.Strconv.Itoa1
import Derived.Shelf.LaysM
import Derived.Shelf.Strconv.Itoa2
import Derived.Shelf.Strconv.Itoa3
import Derived.Shelf.Strconv.Itoa4
import Derived.Shelf.Strconv.AtoiErrFast
import Derived.Shelf.Strconv.ParseIntEmpty
import Derived.Shelf.Strconv.AtoiFail
import Derived.Shelf.Strconv.Clone
import Derived.Shelf.Strconv.SyntaxError
import Derived.Shelf.LaysC
import Derived.Shelf.Strconv.ToError
import Derived.Shelf.Strconv.Lower
import Derived.Shelf.Strconv.ParseUint10
import Derived.Shelf.Strconv.ParseUint10Empty
import Derived.Shelf.Strconv.ParseUint10Any
import Derived.Shelf.Strconv.ParseInt10
import Derived.Shelf.Strconv.AtoiLong
import Derived.Shelf.Strconv.AtoiInnerAll
import Derived.Shelf.Strconv.RangeError
import Derived.Shelf.Strconv.ToErrorRange
import Derived.Shelf.Strconv.AtoiAll
import Derived.Shelf.Strings.Search1
import Derived.Shelf.Strings.Search2
import Derived.Shelf.Strings.Search3
import Derived.Shelf.Strings.Cut
import Derived.Shelf.Strings.Count
import Derived.Shelf.Strings.Shaped
import Derived.Shelf.Strings.Prefix
import Derived.Shelf.Strings.Split
import Derived.Shelf.Strings.SplitShaped
import Derived.Shelf.Unicode.Decode
import Derived.Shelf.Strings.RuneCount
import Derived.Shelf.Strings.Explode
import Derived.Shelf.Bits.Mul64
import Derived.Shelf.Strings.Repeat
import Derived.Shelf.Unicode.DecodeSlow
import Derived.Shelf.Unicode.DecodeAny
import Derived.Shelf.Bytes.Small
import Derived.Lib.IndexMore
import Derived.Lib.Bytealg
import Derived.Laws.BitsAllLaws
import Derived.Lib.Repeat
import Derived.Lib.AppendZerosOnto
import Derived.Maps.OwnOps
import Derived.Maps.Views
import Derived.StringKeys
import Derived.Lib.SplitLaws
import Derived.Lib.IndexBytes
import Derived.Lib.IndexLaws
import Derived.Lib.LastIndexByte
import Derived.Lib.AtoiTie
import Derived.Lib.Strings
import Derived.Test.YtdijnmcfpbceaaaGreatDoorRows
import Derived.ProofKit
import Derived.OpenShut
import Derived.ShutString
import Derived.SizedLaws
import Derived.Deep.DeepHandedRow
import Derived.Lib.LaidTab
import Derived.LaidMore
import Derived.Lay
import Derived.Stop.Joined
import Derived.ChangeSlices
import Derived.SliceStrings
import Derived.Deep.Slices
namespace Go.Proofs.YtdijnmcfpbceaaaGreatDoor.X
open Go.RowKit Go.Proofs.YtdijnmcfpbceaaaGreatDoorW.PrintWords Go.Proofs.YtdijnmcfpbceaaaGreatDoor.P
set_option linter.unusedVariables false
set_option linter.unusedSimpArgs false
def fieldR (l : List Int) : ByteArray := strOfNums (l.takeWhile (· != 0))
theorem qD5 (l : List Int) (h : Bytes l) (hn : l.length < 4294967281) : head_field.f l = some (fieldR l) := by
  unfold head_field.f strings_Cut.f
  have e : (strOfNums l).size = l.length := by rw [qB1, qA3, List.length_map]
  rw [if_pos (by omega)]
  simp only [Option.bind_some]
  rw [qIr]
  unfold fieldR
  rw [qB1, qB1, ← qFi l h]
def kindR (c : Int) (m : ByteArray) : Int := if c = 53 then 1 else if c = 50 then 4 else if c = 120 then 5 else if m.toList = [48, 48, 48, 48, 55, 53, 53] then 3 else 2
theorem qJ4 (c : Int) (m : ByteArray) : head_kind.f c m = some (kindR c m) := by
  unfold head_kind.f kindR
  split
  · rfl
  split
  · rfl
  split
  · rfl
  split <;> rfl
def readN (b : List Int) : ByteArray := fieldR (b.take 100)
def readL (b : List Int) : ByteArray := fieldR ((b.take 257).drop 157)
def readK (b : List Int) : Int := kindR (rd b 156) (fieldR ((b.take 108).drop 100))
def readS (b : List Int) : Int := (ofOctR (fieldR ((b.take 136).drop 124))).1
def Told (b : List Int) : Prop := b.length = 512 ∧ layR (readN b) (readK b) (readS b) (readL b) = (b, true)
instance (b : List Int) : Decidable (Told b) := by unfold Told; infer_instance
def readR (b : List Int) : ByteArray × Int × Int × ByteArray × Bool := if Told b then (readN b, readK b, readS b, readL b, true) else (⟨#[]⟩, 0, 0, ⟨#[]⟩, false)
theorem qEv (a0 : ByteArray) (a1 a2 : Int) (a3 : ByteArray) : Bytes (layR a0 a1 a2 a3).1 := by
  unfold layR
  split
  · rename_i h
    exact qHo _ _ _ _ h.1.2.1 h.1.2.2.2.1
  · intro x hx; cases hx
theorem qDu (s : ByteArray) : 0 ≤ (ofOctR s).1 ∧ (ofOctR s).1 < 9223372036854775808 := by
  unfold ofOctR
  split
  · rename_i h
    have g : ∀ (l : List UInt8) (n x : Nat) (m : Nat), octV l x = some n → x < 8 ^ m → n < 8 ^ (m + l.length) := by
      intro l
      induction l with
      | nil => intro n x m h hx; simp only [octV, Option.some.injEq] at h; subst h; exact hx
      | cons c l ih =>
        intro n x m h hx
        rw [octV] at h
        split at h
        · rename_i hc
          have := ih n _ (m + 1) h (by rw [Nat.pow_succ]; omega)
          rw [List.length_cons]
          rw [show m + 1 + l.length = m + (l.length + 1) by omega] at this
          exact this
        · cases h
    cases e : octV s.data.toList 0 with
    | none => simp
    | some n =>
      have h1 := g _ _ 0 0 e (by decide)
      have h2 : 8 ^ (0 + s.data.toList.length) ≤ 8 ^ 11 := Nat.pow_le_pow_right (by omega) (by rw [qAh]; omega)
      have h3 : (8 : Nat) ^ 11 = 8589934592 := by decide
      rw [h3] at h2
      have h4 := Nat.lt_of_lt_of_le h1 h2
      clear h1 h2 h3 e g
      simp only
      omega
  · simp
theorem qJs (b : List Int) (h : Bytes b) : Ev (fun k => head_Read.f k b) (readR b) := by
  by_cases hl : b.length = 512
  rotate_left
  · refine ⟨0, fun k hk => ?_⟩
    show head_Read.f k b = _
    unfold head_Read.f readR
    rw [if_neg (by omega), if_neg (fun x => hl x.1)]
  obtain ⟨K1, k1⟩ := qHj (fieldR ((b.take 136).drop 124))
  refine ⟨K1 + 1, fun k hk => ?_⟩
  have k1 := k1 k (by omega)
  obtain ⟨k, rfl⟩ : ∃ m, k = m + 1 := ⟨k - 1, by omega⟩
  simp only at k1
  have hr := (qDu (fieldR ((b.take 136).drop 124))).2
  show head_Read.f _ b = _
  unfold head_Read.f
  have f0 := qD5 (b.take 100) (h.take _) (by rw [List.length_take]; omega)
  have f1 := qD5 ((b.take 257).drop 157) ((h.take _).drop _) (by rw [List.length_drop, List.length_take]; omega)
  have f2 := qD5 ((b.take 108).drop 100) ((h.take _).drop _) (by rw [List.length_drop, List.length_take]; omega)
  have f3 := qD5 ((b.take 136).drop 124) ((h.take _).drop _) (by rw [List.length_drop, List.length_take]; omega)
  rw [if_pos (by omega), if_pos (by omega), f0]
  simp only [Option.bind_some]
  rw [if_pos (by decide), if_pos (by omega), f1]
  simp only [Option.bind_some]
  rw [if_pos (by omega), if_pos (by decide), if_pos (by omega), f2]
  simp only [Option.bind_some]
  rw [qJ4]
  simp only [Option.bind_some]
  rw [if_pos (by decide), if_pos (by omega), f3]
  simp only [Option.bind_some]
  rw [k1]
  simp only [Option.bind_some]
  rw [lay_eq _ _ _ _ _ hr]
  simp only [Option.bind_some]
  have hb := qEv (readN b) (readK b) (readS b) (readL b)
  unfold readR
  show (if (layR (readN b) (readK b) (readS b) (readL b)).2 = true then (if (strOfNums (layR (readN b) (readK b) (readS b) (readL b)).1).toList = (strOfNums b).toList then some (readN b, readK b, readS b, readL b, true) else some (⟨#[]⟩, 0, 0, ⟨#[]⟩, false)) else some (⟨#[]⟩, 0, 0, ⟨#[]⟩, false)) = _
  by_cases e2 : (layR (readN b) (readK b) (readS b) (readL b)).2 = true
  rotate_left
  · rw [if_neg e2, if_neg (fun x => e2 (by rw [x.2]))]
  rw [if_pos e2]
  by_cases e1 : (layR (readN b) (readK b) (readS b) (readL b)).1 = b
  · rw [if_pos ((qCs _ _ hb h).2 e1), if_pos ⟨hl, Prod.ext e1 e2⟩]
  · rw [if_neg (fun x => e1 ((qCs _ _ hb h).1 x)), if_neg (fun x => e1 (by rw [x.2]))]
theorem qCj (A B C : List Int) (p q : Nat) (hA : A.length = p) (hB : p + B.length = q) : ((A ++ (B ++ C)).take q).drop p = B := by
  subst hA
  subst hB
  rw [← List.append_assoc, List.take_append_of_le_length (by rw [List.length_append]; omega), List.take_of_length_le (by rw [List.length_append]; omega), List.drop_append_of_le_length (Nat.le_refl _), List.drop_length, List.nil_append]
theorem qC8 (n : Nat) (s : ByteArray) (h : (0 : UInt8) ∉ s.data.toList) : fieldR (padS n s) = s := by
  unfold fieldR padS
  have e : (bytesOf s ++ List.replicate (n - s.size) (0 : Int)).takeWhile (· != 0) = bytesOf s := by
    have ha : ∀ x ∈ bytesOf s, (x != 0) = true := by
      intro x hx
      unfold bytesOf at hx
      obtain ⟨c, hc, rfl⟩ := List.mem_map.1 hx
      have : c ≠ 0 := fun e => h (e ▸ hc)
      have : c.toNat ≠ 0 := fun e => this (UInt8.toNat_inj.1 e)
      simp only [bne_iff_ne, ne_eq]
      omega
    rw [List.takeWhile_append_of_pos ha]
    cases n - s.size with
    | zero => simp
    | succ m => rw [List.replicate_succ, List.takeWhile_cons, if_neg (by simp), List.append_nil]
  rw [e, qCv]
theorem qFe (name md dg : ByteArray) (Y : List Int) (h0 : name.size ≤ 100) : (canonA name md dg ++ Y).take 100 = padS 100 name := by
  have := qCj [] (padS 100 name) ((padS 8 md ++ (padS 8 z7 ++ (padS 8 z7 ++ (padS 12 dg ++ padS 12 z11)))) ++ Y) 0 100 rfl (by rw [qAk h0])
  rw [List.drop_zero, List.nil_append, ← List.append_assoc] at this
  exact this
theorem qHy (name md dg : ByteArray) (Y : List Int) (h0 : name.size ≤ 100) (h1 : md.size ≤ 8) : ((canonA name md dg ++ Y).take 108).drop 100 = padS 8 md := by
  have := qCj (padS 100 name) (padS 8 md) ((padS 8 z7 ++ (padS 8 z7 ++ (padS 12 dg ++ padS 12 z11))) ++ Y) 100 108 (qAk h0) (by rw [qAk h1])
  rw [← this]
  unfold canonA
  simp only [List.append_assoc]
theorem qHw (name md dg : ByteArray) (Y : List Int) (h0 : name.size ≤ 100) (h1 : md.size ≤ 8) (h2 : dg.size ≤ 12) : ((canonA name md dg ++ Y).take 136).drop 124 = padS 12 dg := by
  have := qCj (padS 100 name ++ (padS 8 md ++ (padS 8 z7 ++ padS 8 z7))) (padS 12 dg) (padS 12 z11 ++ Y) 124 136 (by simp only [List.length_append]; rw [qAk h0, qAk h1, qAk (show z7.size ≤ 8 by decide)]) (by rw [qAk h2])
  rw [← this]
  unfold canonA
  simp only [List.append_assoc]
theorem qF9 (name md dg : ByteArray) (Y : List Int) (h0 : name.size ≤ 100) (h1 : md.size ≤ 8) (h2 : dg.size = 11) : ((canonA name md dg ++ Y).take 135).drop 124 = bytesOf dg := by
  have := qCj (padS 100 name ++ (padS 8 md ++ (padS 8 z7 ++ padS 8 z7))) (bytesOf dg) (List.replicate 1 0 ++ (padS 12 z11 ++ Y)) 124 135 (by simp only [List.length_append]; rw [qAk h0, qAk h1, qAk (show z7.size ≤ 8 by decide)]) (by rw [qAz, h2])
  rw [← this]
  unfold canonA
  have e : padS 12 dg = bytesOf dg ++ List.replicate 1 0 := by rw [padS, h2]
  rw [e]
  simp only [List.append_assoc]
theorem qHx (A C : List Int) (c : UInt8) (link : ByteArray) (hA : A.length = 148) (hC : C.length = 8) : rd (A ++ (C ++ canonB ⟨#[c]⟩ link)) 156 = (c.toNat : Int) := by
  have e : canonB ⟨#[c]⟩ link = (c.toNat : Int) :: (padS 100 link ++ (padS 8 us8 ++ List.replicate 247 0)) := rfl
  rw [e, ← List.append_assoc]
  generalize (padS 100 link ++ (padS 8 us8 ++ List.replicate 247 0)) = Y
  unfold rd
  have hl : (A ++ C).length = 156 := by rw [List.length_append]; omega
  rw [show (156 : Int).toNat = 156 from rfl, List.getD_eq_getElem?_getD, List.getElem?_append_right (by omega), hl]
  rfl
theorem qHz (A C : List Int) (c : UInt8) (link : ByteArray) (hA : A.length = 148) (hC : C.length = 8) (h : link.size ≤ 100) : ((A ++ (C ++ canonB ⟨#[c]⟩ link)).take 257).drop 157 = padS 100 link := by
  have := qCj (A ++ (C ++ padS 1 ⟨#[c]⟩)) (padS 100 link) (padS 8 us8 ++ List.replicate 247 0) 157 257 (by simp only [List.length_append]; rw [qAk (show (⟨#[c]⟩ : ByteArray).size ≤ 1 from Nat.le_refl 1)]; omega) (by rw [qAk h])
  rw [← this]
  unfold canonB
  simp only [List.append_assoc]
theorem qIm (a : Int) (h1 : 1 ≤ a) (h5 : a ≤ 5) : kindR ((signR a).toNat : Int) (modeR a) = a := by
  rcases kinds a h1 h5 with rfl | rfl | rfl | rfl | rfl <;> decide +kernel
theorem qHm (a : Int) : (0 : UInt8) ∉ (modeR a).data.toList := by
  unfold modeR
  split
  · decide
  split <;> decide
theorem qEf : ∀ n u, ∀ c ∈ octP n u, c ≠ 0
  | 0, _, c, h => by cases h
  | n + 1, u, c, h => by
    rw [octP] at h
    rcases List.mem_append.1 h with h | h
    · exact qEf n _ c h
    · obtain rfl := List.mem_singleton.1 h
      have h8 : u % 8 < 8 := Nat.mod_lt _ (by omega)
      have := qIq (u % 8) h8
      intro e
      rw [e] at this
      have : (0 : UInt8).toNat = 0 := rfl
      omega
theorem qHf (a0 : ByteArray) (a1 : Int) (n : Nat) (a3 : ByteArray) (hm : MayR a0 a1 n a3) (hn : n < 8589934592) :
    readN (layB a0 a1 n a3) = a0 ∧ readK (layB a0 a1 n a3) = a1 ∧ readS (layB a0 a1 n a3) = (n : Int) ∧ readL (layB a0 a1 n a3) = a3 ∧ ofOctR (strOfNums (((layB a0 a1 n a3).take 135).drop 124)) = ((n : Int), true) := by
  have s1 : (modeR a1).size ≤ 8 := by rw [qCo]; omega
  have s2 : (⟨(octP 11 n).toArray⟩ : ByteArray).size ≤ 12 := by rw [qA3, qA2]; omega
  have s22 : (⟨(octP 11 n).toArray⟩ : ByteArray).size = 11 := by rw [qA3, qA2]
  have h0 := hm.2.1
  have h3 := hm.2.2.2.1
  have lA := qCe a0 (modeR a1) ⟨(octP 11 n).toArray⟩ h0 s1 s2
  have lC := qEo (ckSum (canonA a0 (modeR a1) ⟨(octP 11 n).toArray⟩) (canonB ⟨#[signR a1]⟩ a3))
  have ho := qHk 11 n (by omega) (by omega) hn
  rw [qCp a0 a1 n a3 h0 h3]
  generalize ckOf (ckSum (canonA a0 (modeR a1) ⟨(octP 11 n).toArray⟩) (canonB ⟨#[signR a1]⟩ a3)) = C at *
  unfold readN readK readS readL
  rw [qFe _ _ _ _ h0, qHy _ _ _ _ h0 s1, qHw _ _ _ _ h0 s1 s2, qF9 _ _ _ _ h0 s1 s22, qHx _ _ _ _ lA lC, qHz _ _ _ _ lA lC h3, qC8 _ _ hm.2.2.1, qC8 _ _ (qHm a1), qC8 _ _ (fun x => qEf 11 n 0 x rfl), qC8 _ _ hm.2.2.2.2.1, qIm a1 hm.2.2.2.2.2.1 hm.2.2.2.2.2.2.1, qCv, ho]
  exact ⟨rfl, rfl, rfl, rfl, rfl⟩
theorem qIk {a0 : ByteArray} {a1 a2 : Int} {a3 : ByteArray} {b : List Int} (h : layR a0 a1 a2 a3 = (b, true)) : ∃ n : Nat, a2 = n ∧ MayR a0 a1 n a3 ∧ n < 8589934592 ∧ b = layB a0 a1 n a3 := by
  unfold layR at h
  split at h
  · rename_i hc
    obtain ⟨n, rfl⟩ := Int.eq_ofNat_of_zero_le hc.2.1
    exact ⟨n, rfl, hc.1, by have := hc.2.2; omega, ((Prod.mk.inj h).1).symm⟩
  · cases (Prod.mk.inj h).2
theorem qFp {a0 : ByteArray} {a1 a2 : Int} {a3 : ByteArray} {b : List Int} (h : layR a0 a1 a2 a3 = (b, true)) : readR b = (a0, a1, a2, a3, true) ∧ ofOctR (strOfNums ((b.take 135).drop 124)) = (a2, true) ∧ b.length = 512 ∧ readN b = a0 ∧ readL b = a3 := by
  obtain ⟨n, hn2, hm, hn, hb⟩ := qIk h
  have hall := qHf a0 a1 n a3 hm hn
  have hl := qBy a0 a1 n a3 hm.2.1 hm.2.2.2.1
  rw [← hb] at hall hl
  rw [← hn2] at hall
  clear hb
  obtain ⟨e0, e1, e2, e3, e4⟩ := hall
  refine ⟨?_, e4, hl, e0, e3⟩
  have ht : Told b := by
    refine ⟨hl, ?_⟩
    rw [e0, e1, e2, e3]
    exact h
  unfold readR
  rw [if_pos ht, e0, e1, e2, e3]
end Go.Proofs.YtdijnmcfpbceaaaGreatDoor.X

namespace Go.Proofs.YtdijnmcfpbceaaaGreatDoor.X
open Go.RowKit Go.Proofs.YtdijnmcfpbceaaaGreatDoorW.PrintWords Go.Proofs.YtdijnmcfpbceaaaGreatDoorW.PrintLast Go.Proofs.YtdijnmcfpbceaaaGreatDoorW.PrintMore Go.Proofs.YtdijnmcfpbceaaaGreatDoor.P
set_option linter.unusedVariables false
set_option linter.unusedSimpArgs false
structure EntOk (e : EntT) : Prop where
  may : MayR e.name e.kind (e.data.size : Int) e.link
  small : e.data.size ≤ 10000
  pax : e.kind = 5 → e.name = ⟨#[112, 97, 120]⟩
theorem qG2 {n : S47} (h : goodN n = true) : ∀ e ∈ entsN n, EntOk e := by
  intro e he
  have hx := qDn h
  have hd := qIb h
  have hk := qBd h
  unfold entsN at he
  rcases List.mem_append.1 he with h1 | h1
  · split at h1
    · cases h1
    · rename_i hz
      rw [List.mem_singleton] at h1
      subst h1
      refine ⟨qH9 _, ?_, fun _ => rfl⟩
      show (extraN n).size ≤ 10000
      split at hx <;> omega
  · rw [List.mem_singleton] at h1
    subst h1
    refine ⟨hd.1, by have := hd.2; omega, fun e => ?_⟩
    have e1 : (ownE n).kind = n.f1 := by unfold ownE; split <;> rfl
    rw [e1] at e
    omega
def atE (es : List EntT) (k : Nat) : Nat := ((es.take k).flatMap entryB).length
theorem at_end (es : List EntT) : atE es es.length = (es.flatMap entryB).length := by unfold atE; rw [List.take_length]
theorem qB4 {t : List S47} : tarB t = (entsT t).flatMap entryB ++ List.replicate 1024 0 := rfl
theorem qJn (t : List S47) : (tarB t).length = atE (entsT t) (entsT t).length + 1024 := by rw [at_end, qB4, List.length_append, List.length_replicate]
theorem qDc (n : Nat) : Bytes (List.replicate n 0) := by
  intro x hx
  rw [(List.mem_replicate.1 hx).2]
  omega
theorem qF6 (e : EntT) : Bytes (entryB e) := by
  unfold entryB
  exact (qEv _ _ _ _).append ((qBs _).append (qDc _))
theorem qDg (t : List S47) : Bytes (tarB t) := by
  rw [qB4]
  refine Bytes.append (fun x hx => ?_) (qDc _)
  obtain ⟨e, _, hx⟩ := List.mem_flatMap.1 hx
  exact qF6 e x hx
end Go.Proofs.YtdijnmcfpbceaaaGreatDoor.X

namespace Go.Proofs.YtdijnmcfpbceaaaGreatDoor.X
open Go.RowKit Go.Proofs.YtdijnmcfpbceaaaGreatDoorW.PrintWords Go.Proofs.YtdijnmcfpbceaaaGreatDoorW.PrintLast Go.Proofs.YtdijnmcfpbceaaaGreatDoorW.PrintMore
set_option linter.unusedVariables false
set_option linter.unusedSimpArgs false
theorem qF7 (c : UInt8) (h : 48 ≤ c.toNat ∧ c.toNat ≤ 57) : Lib.digitVal c = some (c.toNat - 48) := by
  unfold Lib.digitVal
  rw [if_pos h]
theorem qEm : ∀ (l : List UInt8) (acc : Nat), (∀ c ∈ l, 48 ≤ c.toNat ∧ c.toNat ≤ 57) → Lib.decFrom acc l = some (numL l acc)
  | [], acc, _ => rfl
  | c :: l, acc, h => by
    rw [Lib.decFrom, qF7 c (h c List.mem_cons_self)]
    exact qEm l _ fun x hx => h x (List.mem_cons_of_mem _ hx)
theorem qEz (u : Nat) : Lib.decNat (Lib.decDigits u) = some u := by
  unfold Lib.decNat
  have h := qC6 u
  unfold lenD at h
  have hne : (Lib.decDigits u).isEmpty = false := by
    cases hd : Lib.decDigits u with
    | nil => rw [hd] at h; simp at h
    | cons a l => rfl
  rw [hne, qEm _ _ (qEl u), qJc]
  rfl
theorem qF1 (n : Int) (h : n < 0) : Lib.itoa n = 45 :: Lib.decDigits n.natAbs := by
  rw [show n = -((n.natAbs : Nat) : Int) from by omega, Lib.itoa_neg _ (by omega)]
  congr 2
  omega
theorem qIw (n : Int) : Lib.atoi (Lib.itoa n) = some n := by
  rcases Int.lt_or_le n 0 with h | h
  · rw [qF1 n h]
    unfold Lib.atoi
    dsimp only
    rw [if_pos (by rfl), qEz]
    show some (-((n.natAbs : Nat) : Int)) = _
    congr 1
    omega
  · obtain ⟨u, rfl⟩ := Int.eq_ofNat_of_zero_le h
    rw [Lib.itoa_nonneg]
    have hd := qEl u
    have h1 := qEz u
    have h2 := qC6 u
    unfold lenD at h2
    cases hl : Lib.decDigits u with
    | nil => rw [hl] at h2; simp at h2
    | cons a l =>
      rw [hl] at hd h1
      have ha := hd a List.mem_cons_self
      have e1 : (a == 45) = false := by
        rw [beq_eq_false_iff_ne]
        intro e
        rw [e] at ha
        exact absurd ha.1 (by decide)
      have e2 : (a == 43) = false := by
        rw [beq_eq_false_iff_ne]
        intro e
        rw [e] at ha
        exact absurd ha.1 (by decide)
      unfold Lib.atoi
      dsimp only
      rw [e1, e2, h1]
      rfl
theorem qHq (n : Int) (h0 : -9007199254740992 ≤ n) (h1 : n ≤ 9007199254740992) : (Lib.itoa n).length ≤ 18 := by
  have hl : ∀ u : Nat, u ≤ 9007199254740992 → (Lib.decDigits u).length ≤ 17 := fun u hu => qDm 16 u (by
    have : (10 : Nat) ^ (16 + 1) = 100000000000000000 := by decide
    omega)
  rcases Int.lt_or_le n 0 with h | h
  · rw [qF1 n h, List.length_cons]
    have := hl n.natAbs (by omega)
    omega
  · obtain ⟨u, rfl⟩ := Int.eq_ofNat_of_zero_le h
    rw [Lib.itoa_nonneg]
    have := hl u (by omega)
    omega
theorem qGb (n : Int) (h0 : -9007199254740992 ≤ n) (h1 : n ≤ 9007199254740992) : Lib.atoiAll (Lib.itoa n) = .ok n := by
  rw [Lib.atoiAll_short _ (qHq n h0 h1), qIw]
  rfl
end Go.Proofs.YtdijnmcfpbceaaaGreatDoor.X

namespace Go.Proofs.YtdijnmcfpbceaaaGreatDoor.X
open Go.RowKit Go.Proofs.YtdijnmcfpbceaaaGreatDoorW.PrintWords Go.Proofs.YtdijnmcfpbceaaaGreatDoorW.PrintLast Go.Proofs.YtdijnmcfpbceaaaGreatDoorW.PrintMore Go.Proofs.YtdijnmcfpbceaaaGreatDoor.P
set_option linter.unusedVariables false
set_option linter.unusedSimpArgs false
theorem qC7 (c : UInt8) (r : List UInt8) : ∀ a : List UInt8, c ∉ a → Lib.indexByte (a ++ c :: r) c = (a.length : Int)
  | [], _ => by
    show Lib.indexByte (c :: r) c = _
    unfold Lib.indexByte
    rw [if_pos (by simp)]
    rfl
  | b :: a, h => by
    have h1 : b ≠ c := fun e => h (by simp [e])
    have ih := qC7 c r a (fun e => h (List.mem_cons_of_mem _ e))
    show Lib.indexByte (b :: (a ++ c :: r)) c = _
    unfold Lib.indexByte
    rw [if_neg (by simpa using h1), ih, if_neg (by simp <;> omega)]
    simp
theorem qIs (c : UInt8) (a r : List UInt8) (h : c ∉ a) : Lib.cut (a ++ c :: r) [c] = (a, r, true) := by
  unfold Lib.cut
  rw [Lib.index_one, qC7 c r a h, if_pos (by omega), Int.toNat_natCast, List.take_left]
  congr 2
  rw [show a.length + [c].length = (a ++ [c]).length from by simp, show a ++ c :: r = (a ++ [c]) ++ r from by simp, List.drop_left]
def takeM (st : List Int × Bool) (n : Int) : List Int × (List Int × Bool) :=
  if st.2 = true ∨ n < 0 ∨ (st.1.length : Int) < n then ([], (st.1, true)) else (st.1.take n.toNat, (st.1.drop n.toNat, false))
def entryM (st : List Int × Bool) : EntT × (List Int × Bool) :=
  let a := takeM st 512
  let h := readR a.1
  let b := takeM (a.2.1, a.2.2 || !h.2.2.2.2) h.2.2.1
  let c := takeM b.2 ((512 - h.2.2.1.tmod 512).tmod 512)
  (⟨h.1, h.2.1, h.2.2.2.1, strOfNums b.1⟩, c.2)
def trimM (s : ByteArray) : ByteArray := ⟨(Lib.trimSuffix s.data.toList [10]).toArray⟩
def qAw (s : ByteArray) : ByteArray × ByteArray × ByteArray × Bool :=
  let d := (Lib.cut s.data.toList [32]).1
  match Lib.atoiAll d with
  | .ok n => if n ≤ (d.length : Int) ∨ (s.size : Int) < n then (⟨#[]⟩, ⟨#[]⟩, ⟨#[]⟩, false) else
    let m := Lib.cut ((s.data.toList.take n.toNat).drop (d.length + 1)) [61]
    (⟨m.1.toArray⟩, trimM ⟨m.2.1.toArray⟩, ⟨(s.data.toList.drop n.toNat).toArray⟩, m.2.2)
  | _ => (⟨#[]⟩, ⟨#[]⟩, ⟨#[]⟩, false)
def putM (x : EntT) (key value : ByteArray) : EntT := if key = pathS then { x with name := value } else { x with link := value }
def toldM : Nat → EntT → ByteArray → EntT × Bool
  | 0, x, _ => (x, true)
  | f + 1, x, e => if e.size = 0 then (x, false) else
    let r := qAw e
    if r.2.2.2 = false then (x, true) else toldM f (putM x r.1 r.2.1) r.2.2.1
def dotS : ByteArray := ⟨#[46]⟩
def nodeX (x : EntT) : S47 := ⟨if x.name = dotS then ⟨#[]⟩ else x.name, x.kind, x.data ++ x.link⟩
def nodeM (st : List Int × Bool) : S47 × (List Int × Bool) :=
  let a := entryM st
  if a.1.kind = 5 then
    let b := entryM a.2
    let c := toldM (a.1.data.size + 1) b.1 a.1.data
    (nodeX c.1, (b.2.1, b.2.2 || c.2))
  else (nodeX a.1, a.2)
def endedM (l : List Int) : Bool := decide (l.length = 1024) && l.all (· == 0)
def readM : Nat → List Int × Bool → List S47 → List S47 × Bool
  | 0, st, t => (t, st.2)
  | f + 1, st, t => if st.2 = true ∨ endedM st.1 = true ∨ 400 < t.length then (t, st.2) else readM f (nodeM st).2 (t ++ [(nodeM st).1])
def untR (b : List Int) : List S47 × Int :=
  let r := readM 402 (b, false) []
  if r.2 = false ∧ treeB r.1 = true ∧ tarB r.1 = b then (r.1, 0) else ([], 5)
theorem qE6 (a r : List Int) : takeM (a ++ r, false) (a.length : Int) = (a, (r, false)) := by
  unfold takeM
  rw [if_neg (by simp; omega), Int.toNat_natCast, List.take_left, List.drop_left]
theorem qEk {e : EntT} (h : EntOk e) (r : List Int) : entryM (entryB e ++ r, false) = (e, (r, false)) := by
  have hs := h.small
  have hl : layR e.name e.kind (e.data.size : Int) e.link = (layB e.name e.kind e.data.size e.link, true) := by
    unfold layR
    rw [if_pos ⟨h.may, by omega, by rw [Int.toNat_natCast]; omega⟩, Int.toNat_natCast]
  have h5 := qBy e.name e.kind e.data.size e.link h.may.2.1 h.may.2.2.2.1
  have he : entryB e = layB e.name e.kind e.data.size e.link ++ (bytesOf e.data ++ List.replicate (padN e.data.size) 0) := by
    unfold entryB
    rw [hl]
  have hr := (qFp hl).1
  generalize layB e.name e.kind e.data.size e.link = L at *
  have e1 : takeM (entryB e ++ r, false) 512 = (L, (bytesOf e.data ++ (List.replicate (padN e.data.size) 0 ++ r), false)) := by
    have := qE6 L (bytesOf e.data ++ (List.replicate (padN e.data.size) 0 ++ r))
    rw [h5] at this
    rw [he, List.append_assoc, List.append_assoc]
    exact this
  have e2 : takeM (bytesOf e.data ++ (List.replicate (padN e.data.size) 0 ++ r), false) (e.data.size : Int) = (bytesOf e.data, (List.replicate (padN e.data.size) 0 ++ r, false)) := by
    have := qE6 (bytesOf e.data) (List.replicate (padN e.data.size) 0 ++ r)
    rw [qAz] at this
    exact this
  have e3 : takeM (List.replicate (padN e.data.size) (0 : Int) ++ r, false) ((512 - ((e.data.size : Nat) : Int).tmod 512).tmod 512) = (List.replicate (padN e.data.size) 0, (r, false)) := by
    have := qE6 (List.replicate (padN e.data.size) (0 : Int)) r
    rw [List.length_replicate] at this
    have ep : (512 - ((e.data.size : Nat) : Int).tmod 512).tmod 512 = ((padN e.data.size : Nat) : Int) := by
      have a1 : ((e.data.size : Nat) : Int).tmod 512 = ((e.data.size % 512 : Nat) : Int) := rfl
      rw [a1, show (512 - ((e.data.size % 512 : Nat) : Int)) = ((512 - e.data.size % 512 : Nat) : Int) from by omega]
      rfl
    rw [ep]
    exact this
  unfold entryM
  simp only [e1, hr, Bool.not_true, Bool.or_false, e2, e3]
  rw [qCv]
theorem qCu (l : List UInt8) : (⟨l.toArray⟩ : ByteArray).data.toList = l := rfl
theorem qJj (u : Nat) : (32 : UInt8) ∉ Lib.decDigits u := fun h => by
  have := (qEl u 32 h).1
  exact absurd this (by decide)
theorem qGw (u : Nat) (h : u ≤ 1000000) : Lib.atoiAll (Lib.decDigits u) = .ok (u : Int) := by
  have := qGb (u : Int) (by omega) (by omega)
  rw [Lib.itoa_nonneg] at this
  exact this
theorem qI0 (l : List UInt8) : trimM ⟨(l ++ [10]).toArray⟩ = ⟨l.toArray⟩ := by
  unfold trimM Lib.trimSuffix Lib.hasSuffix
  rw [qCu, if_pos (by simp), List.length_append]
  simp
theorem qHe (key value : ByteArray) (r : List UInt8) (hk : (61 : UInt8) ∉ key.data.toList) (hs : key.size + value.size ≤ 800000) : qAw ⟨((recT key value).data.toList ++ r).toArray⟩ = (key, value, ⟨r.toArray⟩, true) := by
  have hsz := (qB5 key value hs)
  have hm := qGi key.data.toList value.data.toList (by rw [qAh, qAh]; exact hs)
  have hM := qDi (key.size + value.size + 3) (by omega)
  have hS := (qCl (key.size + value.size + 3) (by omega)).1
  rw [qAh, qAh] at hm
  have hl : (recT key value).data.toList = Lib.decDigits (recM (key.size + value.size + 3)) ++ 32 :: (key.data.toList ++ 61 :: (value.data.toList ++ [10])) := by
    show recB _ _ = _
    unfold recB
    rw [qAh, qAh]
    simp
  have hl2 : (recT key value).data.toList.length = recM (key.size + value.size + 3) := hm
  generalize hMM : recM (key.size + value.size + 3) = M at *
  have hd := qJj M
  have ha := qGw M (by omega)
  have hdl : lenD M = (Lib.decDigits M).length := rfl
  generalize Lib.decDigits M = D at *
  generalize hT : (recT key value).data.toList = T at *
  unfold qAw
  simp only [qCu]
  have c1 : Lib.cut (T ++ r) [32] = (D, key.data.toList ++ 61 :: (value.data.toList ++ [10]) ++ r, true) := by
    rw [hl]
    have := qIs 32 D (key.data.toList ++ 61 :: (value.data.toList ++ [10]) ++ r) hd
    rw [← this]
    congr 1
    simp
  have c2 : ((T ++ r).take M).drop (D.length + 1) = key.data.toList ++ 61 :: (value.data.toList ++ [10]) := by
    rw [← hl2, List.take_left, hl, show D.length + 1 = (D ++ [32]).length from by simp, show D ++ 32 :: (key.data.toList ++ 61 :: (value.data.toList ++ [10])) = (D ++ [32]) ++ (key.data.toList ++ 61 :: (value.data.toList ++ [10])) from by simp, List.drop_left]
  have c3 : (T ++ r).drop M = r := by rw [← hl2, List.drop_left]
  rw [c1]
  simp only [ha]
  have hz : (⟨(T ++ r).toArray⟩ : ByteArray).size = (T ++ r).length := qA3 _
  rw [if_neg (by rw [hz, List.length_append]; omega), Int.toNat_natCast, c2, c3, qIs 61 _ _ hk]
  simp only
  rw [qI0]
end Go.Proofs.YtdijnmcfpbceaaaGreatDoor.X

namespace Go.Proofs.YtdijnmcfpbceaaaGreatDoor.X
open Go.RowKit Go.Proofs.YtdijnmcfpbceaaaGreatDoorW.PrintWords Go.Proofs.YtdijnmcfpbceaaaGreatDoorW.PrintLast Go.Proofs.YtdijnmcfpbceaaaGreatDoorW.PrintMore Go.Proofs.YtdijnmcfpbceaaaGreatDoor.P
set_option linter.unusedVariables false
set_option linter.unusedSimpArgs false
def UAt (w0 w : World) (gr : Nat) (st : List Int × Bool) : Prop := ∃ A c, w.heap[gr]? = some (.cells #[.slice A st.1.length c, .bool st.2] 68 (0, 0)) ∧ st.1.length ≤ c ∧ (Kd.int .u8).C w0 A st.1.length st.1
theorem UAt.keep {w0 w w1 : World} {gr : Nat} {st : List Int × Bool} (h : UAt w0 w gr st) (hk : w1.heap[gr]? = w.heap[gr]?) : UAt w0 w1 gr st := by
  obtain ⟨A, c, h1, h2, h3⟩ := h
  exact ⟨A, c, hk.trans h1, h2, h3⟩
theorem UAt.lt {w0 w : World} {gr : Nat} {st : List Int × Bool} (h : UAt w0 w gr st) : gr < w.heap.size := by
  obtain ⟨A, c, h1, h2, h3⟩ := h
  exact blk_lt h1
set_option maxHeartbeats 4000000 in
set_option maxRecDepth 100000 in
theorem qDh (w0 : World) (gr : Nat) (l : List Int) (b : Bool) (n : Int) (w : World) (h : UAt w0 w gr (l, b)) (hl : l.length ≤ 1000000) (hn : n ≤ 9223372036854775807) :
    Calls Tryz.prog 74 #[.pointer (some ⟨gr, 0, none⟩), .int .i64 n] w fun e w' => ∃ A1 c1, e = .returned (.slice A1 (takeM (l, b) n).1.length c1) ∧ (takeM (l, b) n).1.length ≤ c1 ∧ (Kd.int .u8).C w0 A1 (takeM (l, b) n).1.length (takeM (l, b) n).1 ∧ UAt w0 w' gr (takeM (l, b) n).2 ∧ StepG w w' gr none := by
  obtain ⟨A, c, hz, hc, hC⟩ := h
  dsimp only at hz hc hC
  have HZ := Aside0.mk hz
  have HC := Aside0.mk hC
  have z0 : w.cell? ⟨gr, 0, none⟩ = some (.slice A l.length c) := (qAd hz 0).trans rfl
  have z1 : w.cell? ⟨gr, 1, none⟩ = some (.bool b) := (qAd hz 1).trans rfl
  have hfz := fun k => qAf hz k
  clear hz hC
  obtain ⟨R, hR⟩ : ∃ R, takeM (l, b) n = R := ⟨_, rfl⟩
  have HR := Aside0.mk hR
  rw [hR]
  clear hR
  obtain ⟨b1, hb1⟩ : ∃ b, decide (n < 0) = b := ⟨_, rfl⟩
  obtain ⟨b2, hb2⟩ : ∃ b, decide ((l.length : Int) < n) = b := ⟨_, rfl⟩
  go_enter Tryz.func74, Tryz.ntmps74
  cases hbb : (b || (b1 || b2)) with
  | true =>
    have HM := Aside0.mk (show R = ([], (l, true)) from by
      rw [← HR.out]
      unfold takeM
      rw [if_pos]
      rcases Bool.or_eq_true _ _ ▸ hbb with h | h
      · exact .inl h
      · rcases Bool.or_eq_true _ _ ▸ h with h | h
        · rw [h] at hb1
          exact .inr (.inl (of_decide_eq_true hb1))
        · rw [h] at hb2
          exact .inr (.inr (of_decide_eq_true hb2)))
    have HZ2 := Aside0.mk (show (w.setCell ⟨gr, 1, none⟩ (.bool true)).heap[gr]? = some (.cells #[.slice A l.length c, .bool true] 68 (0, 0)) from qAp HZ.out 1 _)
    have HS := Aside0.mk (StepG.set (StepG.of_below (sb := gr) (r := none) (Below.refl w.heap.size w)) 1 (.bool true))
    have HF := Aside0.mk (show ∀ e w', e = .returned (.slice none 0 0) → w' = w.setCell ⟨gr, 1, none⟩ (.bool true) → ∃ A1 c1, e = Ending.returned (.slice A1 R.1.length c1) ∧ R.1.length ≤ c1 ∧ (Kd.int .u8).C w0 A1 R.1.length R.1 ∧ UAt w0 w' gr R.2 ∧ StepG w w' gr none from fun e w' h1 h2 => by
      rw [HM.out, h1, h2]
      exact ⟨none, 0, rfl, Nat.le_refl _, ⟨rfl, by simp, fun h => absurd h (by simp)⟩, ⟨A, c, HZ2.out, hc, HC.out⟩, HS.out⟩)
    clear HM HZ2 HS
    cases b <;> cases b1 <;> cases b2 <;> first
    | (cases hbb; done)
    | (clear hbb
       go_wp2_with fail
       go_ret
       exact HF.out _ _ rfl rfl)
  | false =>
    obtain rfl : b = false := by cases b <;> first | rfl | cases hbb
    obtain rfl : b1 = false := by cases b1 <;> first | rfl | cases hbb
    obtain rfl : b2 = false := by cases b2 <;> first | rfl | cases hbb
    clear hbb
    obtain ⟨m, rfl⟩ := Int.eq_ofNat_of_zero_le (show 0 ≤ n by have := of_decide_eq_false hb1; omega)
    have hm : m ≤ l.length := by have := of_decide_eq_false hb2; omega
    have HM := Aside0.mk (show R = (l.take m, (l.drop m, false)) from by
      rw [← HR.out]
      unfold takeM
      rw [if_neg (by simp; omega), Int.toNat_natCast])
    have hlt : (l.take m).length = m := by rw [List.length_take]; omega
    have hld : (l.drop m).length = l.length - m := List.length_drop
    have HCt := Aside0.mk (Kd.C_take HC.out hm)
    have HCd := Aside0.mk (Kd.C_drop HC.out hm hc)
    have hsz : m * (Kd.int IntKind.u8).sz = m := Nat.mul_one m
    rw [hsz] at HCd
    obtain ⟨A2, hA2⟩ : ∃ A2, (if c = m then A else A.map (·.add m)) = A2 := ⟨_, rfl⟩
    rw [hA2] at HCd
    have HZ2 := Aside0.mk (show (w.setCell ⟨gr, 0, none⟩ (.slice A2 (l.length - m) (c - m))).heap[gr]? = some (.cells #[.slice A2 (l.length - m) (c - m), .bool false] 68 (0, 0)) from qAp HZ.out 0 _)
    have HS := Aside0.mk (StepG.set (StepG.of_below (sb := gr) (r := none) (Below.refl w.heap.size w)) 0 (.slice A2 (l.length - m) (c - m)))
    have hm0 : 0 ≤ (m : Int) := by omega
    have hmc : m ≤ c := by omega
    rw [hlt] at HCt
    rw [hld] at HCd
    have HF := Aside0.mk (show ∀ e w', e = .returned (.slice A m c) → w' = w.setCell ⟨gr, 0, none⟩ (.slice A2 (l.length - m) (c - m)) → ∃ A1 c1, e = Ending.returned (.slice A1 R.1.length c1) ∧ R.1.length ≤ c1 ∧ (Kd.int .u8).C w0 A1 R.1.length R.1 ∧ UAt w0 w' gr R.2 ∧ StepG w w' gr none from fun e w' h1 h2 => by
      rw [HM.out, h1, h2]
      refine ⟨A, c, ?_, ?_, ?_, ⟨A2, c - m, ?_, ?_, ?_⟩, HS.out⟩
      · rw [hlt]
      · rw [hlt]; exact hmc
      · rw [hlt]; exact HCt.out
      · rw [hld]; exact HZ2.out
      · rw [hld]; omega
      · rw [hld]; exact HCd.out)
    clear HZ2 HS HCt HCd HM HR hsz
    by_cases hcm : c = m
    · rw [if_pos hcm] at hA2
      subst hA2
      subst hcm
      go_wp2_with fail
      go_ret
      exact HF.out _ _ rfl (by rw [Nat.sub_self, show l.length - c = 0 from by omega])
    · rw [if_neg hcm] at hA2
      subst hA2
      go_wp2_with fail
      go_ret
      exact HF.out _ _ rfl rfl
end Go.Proofs.YtdijnmcfpbceaaaGreatDoor.X

namespace Go.Proofs.YtdijnmcfpbceaaaGreatDoor.X
open Go.RowKit Go.Proofs.YtdijnmcfpbceaaaGreatDoorW.PrintWords Go.Proofs.YtdijnmcfpbceaaaGreatDoorW.PrintLast Go.Proofs.YtdijnmcfpbceaaaGreatDoorW.PrintMore Go.Proofs.YtdijnmcfpbceaaaGreatDoor.P
set_option linter.unusedVariables false
set_option linter.unusedSimpArgs false
theorem qGj (b : List Int) : 0 ≤ (readR b).2.2.1 ∧ (readR b).2.2.1 < 9223372036854775808 := by
  unfold readR
  split
  · exact qDu _
  · exact ⟨by decide, by decide⟩
theorem qCi (st : List Int × Bool) (n : Int) : (takeM st n).1.length ≤ st.1.length ∧ (takeM st n).2.1.length ≤ st.1.length := by
  unfold takeM
  split
  · exact ⟨by simp, Nat.le_refl _⟩
  · exact ⟨by rw [List.length_take]; omega, by rw [List.length_drop]; omega⟩
theorem qB9 {st : List Int × Bool} (h : Bytes st.1) (n : Int) : Bytes (takeM st n).1 ∧ Bytes (takeM st n).2.1 := by
  unfold takeM
  split
  · exact ⟨(fun x hx => by cases hx), h⟩
  · exact ⟨fun x hx => h x (List.mem_of_mem_take hx), fun x hx => h x (List.mem_of_mem_drop hx)⟩
theorem UAt.set {w0 w : World} {gr : Nat} {l : List Int} {b : Bool} (h : UAt w0 w gr (l, b)) (c : Bool) : UAt w0 (w.setCell ⟨gr, 1, none⟩ (.bool c)) gr (l, c) := by
  obtain ⟨A, k, h1, h2, h3⟩ := h
  exact ⟨A, k, qAp h1 1 _, h2, h3⟩
theorem UAt.bad {w0 w : World} {gr : Nat} {st : List Int × Bool} (h : UAt w0 w gr st) : w.cell? ⟨gr, 1, none⟩ = some (.bool st.2) ∧ (∀ k, w.frozen? ⟨gr, k, none⟩ = false) := by
  obtain ⟨A, c, h1, h2, h3⟩ := h
  exact ⟨(qAd h1 1).trans rfl, fun k => qAf h1 k⟩
theorem StepG.setNew {w w1 : World} {sb : Nat} {r : Option Nat} (h : StepG w w1 sb r) (g : Nat) (hg : w.heap.size ≤ g) (o : Nat) (v : Value) : StepG w (w1.setCell ⟨g, o, none⟩ v) sb r :=
  ⟨h.os, h.tape, h.output, by rw [sizeG]; exact h.size, fun k hk hs hne => (Below.heap_setCell w1 ⟨g, o, none⟩ v k (by show k ≠ g; omega)).trans (h.block k hk hs hne)⟩
set_option maxHeartbeats 4000000 in
set_option maxRecDepth 100000 in
theorem qDq (w0 : World) (gr : Nat) (l : List Int) (b : Bool) (w : World) (hT : Aside0 (Tabs w0)) (hgr : w0.heap.size ≤ gr) (hB : Below w0.heap.size w0 w) (h : UAt w0 w gr (l, b)) (hl : l.length ≤ 1000000) (hby : Bytes l) :
    Calls Tryz.prog 52 #[.pointer (some ⟨gr, 0, none⟩)] w fun e w' => e = .returned (.agg #[.string (entryM (l, b)).1.name, .string (entryM (l, b)).1.link, .string (entryM (l, b)).1.data, .int .i64 (entryM (l, b)).1.kind]) ∧ UAt w0 w' gr (entryM (l, b)).2 ∧ StepG w w' gr none := by
  obtain ⟨R, hR⟩ : ∃ R, entryM (l, b) = R := ⟨_, rfl⟩
  rw [hR]
  have HE := Aside0.mk hR
  clear hR
  have hgl := h.lt
  have HB := Aside0.mk (qAb hB (.cells #[.string ⟨#[]⟩, .string ⟨#[]⟩, .string ⟨#[]⟩, .int .i64 0] 82))
  have H := Aside0.mk (h.keep (w1 := w.alloc (.cells #[.string ⟨#[]⟩, .string ⟨#[]⟩, .string ⟨#[]⟩, .int .i64 0] 82)) ((qAb (Below.refl w.heap.size w) _).block gr hgl))
  have HG := Aside0.mk (qA7 w (.cells #[.string ⟨#[]⟩, .string ⟨#[]⟩, .string ⟨#[]⟩, .int .i64 0] 82))
  have HS0 := Aside0.mk (StepG.of_below (sb := gr) (r := none) (qAb (Below.refl w.heap.size w) (.cells #[.string ⟨#[]⟩, .string ⟨#[]⟩, .string ⟨#[]⟩, .int .i64 0] 82)))
  clear hB h
  go_enter Tryz.func52, Tryz.ntmps52
  go_wp2_with fail
  generalize w.alloc (.cells #[.string ⟨#[]⟩, .string ⟨#[]⟩, .string ⟨#[]⟩, .int .i64 0] 82) = w9 at *
  have hge : w.heap.size ≠ gr := by omega
  generalize hgg : w.heap.size = ge at HG hge
  refine (qDh w0 gr l b 512 w9 H.out hl (by omega)).mono ?_
  rintro e w1 ⟨A1, c1, rfl, hc1, hC1, hU1, hS1⟩
  have HL1 := Aside0.mk (qCi (l, b) 512)
  have HY1 := Aside0.mk (qB9 (st := (l, b)) hby 512)
  obtain ⟨⟨o1, l1, b1⟩, ht1⟩ : ∃ r, takeM (l, b) 512 = r := ⟨_, rfl⟩
  rw [ht1] at hc1 hC1 hU1 HL1 HY1
  rw [ht1]
  have HT1 := Aside0.mk ht1
  dsimp only at *
  have HC1 := Aside0.mk hC1
  have HB1 := Aside0.mk (qB8 HB.out hS1 hgr (fun k hk => by cases hk))
  have HG1 := Aside0.mk ((hS1.block ge (blk_lt HG.out) hge (by simp)).trans HG.out)
  have HS1 := Aside0.mk (HS0.out.trans hS1 (.inl rfl))
  clear ht1 hS1 hC1
  obtain ⟨KR, hKR⟩ := qJs o1 HY1.out.1
  obtain ⟨⟨nm, kd, n, lk, ok⟩, hrd⟩ : ∃ r, readR o1 = r := ⟨_, rfl⟩
  have HN := Aside0.mk (qGj o1)
  have HKR := Aside0.mk (hKR KR (Nat.le_refl _))
  rw [hrd] at HN HKR
  have HRd := Aside0.mk hrd
  dsimp only at HN
  clear hKR hrd
  go_wp2_with fail
  refine (head_Read.calls KR A1 c1 o1 nm kd n lk ok w1 ⟨Tabs.below hT.out HB1.out⟩ (Kd.C_below HC1.out HB1.out) hc1 HKR.out).mono ?_
  rintro e w2 ⟨rfl, hb2⟩
  have HB2 := Aside0.mk (qAe HB1.out hb2)
  have HU2 := Aside0.mk (hU1.keep (hb2.block gr hU1.lt))
  have HG2 := Aside0.mk (qAg HG1.out hb2)
  have HS2 := Aside0.mk (HS1.out.trans (StepG.of_below hb2) (.inl rfl))
  obtain ⟨z1, hfz⟩ := HU2.out.bad
  dsimp only at z1
  clear hb2 hU1 HG1 HS1 HC1 HKR HB1
  obtain ⟨hn0, hn1⟩ := HN.out
  obtain ⟨bb, hbb⟩ : ∃ bb, (b1 || !ok) = bb := ⟨_, rfl⟩
  have HU3 := Aside0.mk (HU2.out.set bb)
  have HG3 := Aside0.mk ((Below.heap_setCell w2 ⟨gr, 1, none⟩ (.bool bb) ge hge).trans HG2.out)
  have HS3 := Aside0.mk (HS2.out.set 1 (.bool bb))
  have HB3 := Aside0.mk (show Below w0.heap.size w0 (w2.setCell ⟨gr, 1, none⟩ (.bool bb)) from ⟨HB2.out.os, HB2.out.tape, HB2.out.output, by rw [sizeG]; exact HB2.out.size, fun k hk => (Below.heap_setCell w2 ⟨gr, 1, none⟩ _ k (by show k ≠ gr; omega)).trans (HB2.out.block k hk)⟩)
  have hl1 : l1.length ≤ 1000000 := by have := HL1.out.2; omega
  have HBb := Aside0.mk hbb
  have HEM := Aside0.mk (show R = (⟨nm, kd, lk, strOfNums (takeM (l1, bb) n).1⟩, (takeM (takeM (l1, bb) n).2 ((512 - n.tmod 512).tmod 512)).2) from by
    rw [← HE.out]
    unfold entryM
    simp only [HT1.out, HRd.out, HBb.out])
  have hpe : (512 - n.tmod 512).tmod 512 = -(n % 512) % 512 := by
    rw [Int.tmod_eq_emod_of_nonneg hn0, Int.tmod_eq_emod_of_nonneg (by omega)]
    omega
  rw [hpe] at HEM
  clear hpe
  have HL4 := Aside0.mk (qCi (l1, bb) n)
  clear HE HT1 HRd HBb
  cases b1 <;> cases ok <;> (
    simp at hbb
    subst hbb
    go_wp2_with fail
    generalize w2.setCell ⟨gr, 1, none⟩ _ = w3 at *
    refine (qDh w0 gr l1 _ n w3 HU3.out hl1 (by omega)).mono ?_
    rintro e w4 ⟨A2, c2, rfl, hc2, hC2, hU4, hS4⟩
    generalize takeM (l1, _) n = t2 at *
    obtain ⟨o2, l2, b2⟩ := t2
    dsimp only at *
    have HC2 := Aside0.mk hC2
    have HB4 := Aside0.mk (qB8 HB3.out hS4 hgr (fun k hk => by cases hk))
    have HG4 := Aside0.mk ((hS4.block ge (blk_lt HG3.out) hge (by simp)).trans HG3.out)
    have HS4 := Aside0.mk (HS3.out.trans hS4 (.inl rfl))
    have HU4 := Aside0.mk hU4
    have hcv := show (convert 26 9 (.slice A2 o2.length c2)).run Tryz.prog w4 = .ok (.string (strOfNums o2)) w4 from Kd.C_string Tryz.underlying26 Tryz.underlying5 Tryz.underlying9 (Kd.C_below HC2.out HB4.out)
    have hl2 : l2.length ≤ 1000000 := by have := HL4.out.2; omega
    clear hS4 hU4 hC2 HU3 HG3 HS3 HB3 HL4 z1 hfz
    go_wp2_with fail
    refine (qDh w0 gr l2 b2 (-(n % 512) % 512) w4 HU4.out hl2 (by omega)).mono ?_
    rintro e w5 ⟨A3, c3, rfl, hc3, hC3, hU5, hS5⟩
    have HU5 := Aside0.mk hU5
    have HG5 := Aside0.mk ((hS5.block ge (blk_lt HG4.out) hge (by simp)).trans HG4.out)
    have HS5 := Aside0.mk (HS4.out.trans hS5 (.inl rfl))
    have hfg := fun k => qAf HG5.out k
    clear hS5 hU5 hC3 hcv HG4 HS4 HB4 HU4 hc3
    generalize takeM (l2, b2) (-(n % 512) % 512) = t3 at *
    have HGa := Aside0.mk (qAp HG5.out 0 (.string nm))
    have HGb := Aside0.mk (qAp HGa.out 1 (.string lk))
    have HGc := Aside0.mk (qAp HGb.out 2 (.string (strOfNums o2)))
    have HGd := Aside0.mk (qAp HGc.out 3 (.int .i64 kd))
    have y0 := (show w5.cell? ⟨ge, 0, none⟩ = some (.string ⟨#[]⟩) from (qAd HG5.out 0).trans rfl)
    have y1 := (show (w5.setCell ⟨ge, 0, none⟩ (.string nm)).cell? ⟨ge, 1, none⟩ = some (.string ⟨#[]⟩) from (qAd HGa.out 1).trans rfl)
    have y2 := (show ((w5.setCell ⟨ge, 0, none⟩ (.string nm)).setCell ⟨ge, 1, none⟩ (.string lk)).cell? ⟨ge, 2, none⟩ = some (.string ⟨#[]⟩) from (qAd HGb.out 2).trans rfl)
    have y3 := (show (((w5.setCell ⟨ge, 0, none⟩ (.string nm)).setCell ⟨ge, 1, none⟩ (.string lk)).setCell ⟨ge, 2, none⟩ (.string (strOfNums o2))).cell? ⟨ge, 3, none⟩ = some (.int .i64 0) from (qAd HGc.out 3).trans rfl)
    have x0 := (show ((((w5.setCell ⟨ge, 0, none⟩ (.string nm)).setCell ⟨ge, 1, none⟩ (.string lk)).setCell ⟨ge, 2, none⟩ (.string (strOfNums o2))).setCell ⟨ge, 3, none⟩ (.int .i64 kd)).cell? ⟨ge, 0, none⟩ = some (.string nm) from (qAd HGd.out 0).trans rfl)
    have x1 := (show ((((w5.setCell ⟨ge, 0, none⟩ (.string nm)).setCell ⟨ge, 1, none⟩ (.string lk)).setCell ⟨ge, 2, none⟩ (.string (strOfNums o2))).setCell ⟨ge, 3, none⟩ (.int .i64 kd)).cell? ⟨ge, 1, none⟩ = some (.string lk) from (qAd HGd.out 1).trans rfl)
    have x2 := (show ((((w5.setCell ⟨ge, 0, none⟩ (.string nm)).setCell ⟨ge, 1, none⟩ (.string lk)).setCell ⟨ge, 2, none⟩ (.string (strOfNums o2))).setCell ⟨ge, 3, none⟩ (.int .i64 kd)).cell? ⟨ge, 2, none⟩ = some (.string (strOfNums o2)) from (qAd HGd.out 2).trans rfl)
    have x3 := (show ((((w5.setCell ⟨ge, 0, none⟩ (.string nm)).setCell ⟨ge, 1, none⟩ (.string lk)).setCell ⟨ge, 2, none⟩ (.string (strOfNums o2))).setCell ⟨ge, 3, none⟩ (.int .i64 kd)).cell? ⟨ge, 3, none⟩ = some (.int .i64 kd) from (qAd HGd.out 3).trans rfl)
    have hf1 := fun k => qAf HGa.out k
    have hf2 := fun k => qAf HGb.out k
    have hf3 := fun k => qAf HGc.out k
    have HF := Aside0.mk (show ∀ (e : Ending) (w' : World), e = .returned (.agg #[.string nm, .string lk, .string (strOfNums o2), .int .i64 kd]) → w' = ((((w5.setCell ⟨ge, 0, none⟩ (.string nm)).setCell ⟨ge, 1, none⟩ (.string lk)).setCell ⟨ge, 2, none⟩ (.string (strOfNums o2))).setCell ⟨ge, 3, none⟩ (.int .i64 kd)) → e = .returned (.agg #[.string R.1.name, .string R.1.link, .string R.1.data, .int .i64 R.1.kind]) ∧ UAt w0 w' gr R.2 ∧ StepG w w' gr none from fun e w' h1 h2 => by
      rw [h1, h2, HEM.out]
      refine ⟨rfl, HU5.out.keep ?_, (((HS5.out.setNew ge (by omega) _ _).setNew ge (by omega) _ _).setNew ge (by omega) _ _).setNew ge (by omega) _ _⟩
      rw [Below.heap_setCell _ _ _ _ (by show gr ≠ ge; omega), Below.heap_setCell _ _ _ _ (by show gr ≠ ge; omega), Below.heap_setCell _ _ _ _ (by show gr ≠ ge; omega), Below.heap_setCell _ _ _ _ (by show gr ≠ ge; omega)])
    clear HGa HGb HGc HG5 HU5 HS5 HEM
    go_wp2_with fail
    (try simp only [Exit.inBlock, Exit.then])
    refine bodyPost_ret (qA1 rfl (.cell ge 82 _ (0, 0) _ rfl HGd.out Tryz.underlying82 rfl (by kernel_rfl) .nil)) rfl ?_
    exact HF.out _ _ rfl rfl)
end Go.Proofs.YtdijnmcfpbceaaaGreatDoor.X

namespace Go.Proofs.YtdijnmcfpbceaaaGreatDoor.X
open Go.RowKit Go.Proofs.YtdijnmcfpbceaaaGreatDoorW.PrintWords Go.Proofs.YtdijnmcfpbceaaaGreatDoorW.PrintLast Go.Proofs.YtdijnmcfpbceaaaGreatDoorW.PrintMore Go.Proofs.YtdijnmcfpbceaaaGreatDoor.P
set_option linter.unusedVariables false
set_option linter.unusedSimpArgs false
structure ErrV (w : World) : Prop where
  synt : ∃ ev, w.cell? ⟨6, 0, none⟩ = some ev ∧ (ev = .nilIface ∨ ∃ te pe, ev = .iface te pe)
  rng : ∃ ev, w.cell? ⟨7, 0, none⟩ = some ev ∧ (ev = .nilIface ∨ ∃ te pe, ev = .iface te pe)
theorem ErrV.below {w w1 : World} (h : ErrV w) (hb : Below w.heap.size w w1) : ErrV w1 :=
  ⟨let ⟨ev, a, b⟩ := h.synt; ⟨ev, qA0 hb a, b⟩, let ⟨ev, a, b⟩ := h.rng; ⟨ev, qA0 hb a, b⟩⟩
theorem qDw (s : ByteArray) (a b : Nat) : (s.extract a b).data.toList = (s.data.toList.take b).drop a := by
  rw [ByteArray.data_extract, Array.toList_extract, List.drop_take]
set_option maxHeartbeats 4000000 in
set_option maxRecDepth 100000 in
theorem qE4 (s : ByteArray) (w : World) (hT : Aside0 (Tabs w)) (hE : Aside0 (ErrV w)) (hs : s.size ≤ 1000000) :
    Calls Tryz.prog 75 #[.string s] w fun e w' => e = .returned (.tuple #[.string (qAw s).1, .string (qAw s).2.1, .string (qAw s).2.2.1, .bool (qAw s).2.2.2]) ∧ Below w.heap.size w w' := by
  obtain ⟨R, hR⟩ : ∃ R, qAw s = R := ⟨_, rfl⟩
  rw [hR]
  have HR := Aside0.mk hR
  clear hR
  go_enter Tryz.func75, Tryz.ntmps75
  go_wp2_with fail
  obtain ⟨⟨d, d2, dk⟩, hcut⟩ : ∃ r, Lib.cut s.data.toList [32] = r := ⟨_, rfl⟩
  have hdl : d.length ≤ s.size := by
    have : d = (Lib.cut s.data.toList [32]).1 := by rw [hcut]
    rw [this]
    unfold Lib.cut
    split
    · rw [List.length_take, qAh]
      omega
    · rw [qAh]
      exact Nat.le_refl _
  have hf1 : strings_Cut.f s ⟨#[32]⟩ = some (⟨d.toArray⟩, ⟨d2.toArray⟩, dk) := by
    unfold strings_Cut.f
    rw [if_pos (by omega), show (⟨#[32]⟩ : ByteArray).data.toList = [32] from rfl, hcut]
  have HCut := Aside0.mk hcut
  clear hcut
  refine (strings_Cut.calls s ⟨#[32]⟩ ⟨d.toArray⟩ ⟨d2.toArray⟩ dk w hT hf1).mono ?_
  rintro e w1 ⟨rfl, hd1⟩
  have HB1 := Aside0.mk hd1.below
  clear hd1 hf1
  have hds : (⟨d.toArray⟩ : ByteArray).size = d.length := qA3 d
  have hdt : (⟨d.toArray⟩ : ByteArray).data.toList = d := rfl
  generalize (⟨d.toArray⟩ : ByteArray) = db at *
  have HDt := Aside0.mk hdt
  clear hdt
  have hdb : db.size ≤ s.size := by omega
  have HDs := Aside0.mk hds
  clear hds
  rcases hat : Lib.atoiAll d with v | _ | _
  rotate_left
  ·
    have HF := Aside0.mk (show R = (⟨#[]⟩, ⟨#[]⟩, ⟨#[]⟩, false) from by
      rw [← HR.out]
      unfold qAw
      simp only [HCut.out, hat])
    obtain ⟨ev, hv, hev⟩ := (hE.out.below HB1.out).synt
    go_wp2_with fail
    refine (Tryz.strconv_Atoi_syntax db (by omega) (by rw [HDt.out]; exact hat) ev w1 hv hev).mono ?_
    rintro e w2 ⟨Nn, rfl, _, _, hb2⟩
    have HB2 := Aside0.mk (qAe HB1.out hb2)
    clear hv hev hb2 hat
    go_wp2_with fail
    (try simp only [Exit.inBlock, Exit.then])
    refine bodyPost_ret (qA5 (rs := [.tmp 2, .tmp 3, .tmp 4, .tmp 5]) rfl (by simp) (.tmp (.tmp (.tmp (.tmp .nil))))) rfl ?_
    rw [HF.out]
    exact ⟨rfl, HB2.out⟩
  ·
    have HF := Aside0.mk (show R = (⟨#[]⟩, ⟨#[]⟩, ⟨#[]⟩, false) from by
      rw [← HR.out]
      unfold qAw
      simp only [HCut.out, hat])
    obtain ⟨ev, hv, hev⟩ := (hE.out.below HB1.out).rng
    go_wp2_with fail
    refine (Tryz.strconv_Atoi_range db (by omega) (by rw [HDt.out]; exact hat) ev w1 hv hev).mono ?_
    rintro e w2 ⟨Nn, rfl, _, _, hb2⟩
    have HB2 := Aside0.mk (qAe HB1.out hb2)
    clear hv hev hb2 hat
    generalize Lib.atoiSat db.data.toList = sat at *
    go_wp2_with fail
    (try simp only [Exit.inBlock, Exit.then])
    refine bodyPost_ret (qA5 (rs := [.tmp 2, .tmp 3, .tmp 4, .tmp 5]) rfl (by simp) (.tmp (.tmp (.tmp (.tmp .nil))))) rfl ?_
    rw [HF.out]
    exact ⟨rfl, HB2.out⟩
  ·
    have hvb := Lib.atoiAll_bounds hat
    obtain ⟨b1, hb1⟩ : ∃ b, decide (v ≤ (db.size : Int)) = b := ⟨_, rfl⟩
    obtain ⟨b2, hb2⟩ : ∃ b, decide ((s.size : Int) < v) = b := ⟨_, rfl⟩
    go_wp2_with fail
    refine (Tryz.strconv_Atoi_ok db (by omega) v (by rw [HDt.out]; exact hat) w1).mono ?_
    rintro e w2 ⟨rfl, hw2⟩
    have HB2 := Aside0.mk (show Below w.heap.size w w2 from by
      rcases hw2 with rfl | ⟨t, rfl⟩
      · exact HB1.out
      · exact qGt HB1.out HB1.out.size _ _)
    clear hw2
    cases hbb : (b1 || b2) with
    | true =>
      have HF := Aside0.mk (show R = (⟨#[]⟩, ⟨#[]⟩, ⟨#[]⟩, false) from by
        rw [← HR.out]
        unfold qAw
        simp only [HCut.out, hat]
        rw [if_pos]
        rcases Bool.or_eq_true _ _ ▸ hbb with h | h
        · rw [h] at hb1
          have h1 := of_decide_eq_true hb1
          have h2 := HDs.out
          exact .inl (by omega)
        · rw [h] at hb2
          exact .inr (of_decide_eq_true hb2))
      cases b1 <;> cases b2 <;> first
      | (cases hbb; done)
      | (clear hbb
         go_wp2_with fail
         (try simp only [Exit.inBlock, Exit.then])
         refine bodyPost_ret (qA5 (rs := [.tmp 2, .tmp 3, .tmp 4, .tmp 5]) rfl (by simp) (.tmp (.tmp (.tmp (.tmp .nil))))) rfl ?_
         rw [HF.out]
         exact ⟨rfl, HB2.out⟩)
    | false =>
      obtain rfl : b1 = false := by cases b1 <;> first | rfl | cases hbb
      obtain rfl : b2 = false := by cases b2 <;> first | rfl | cases hbb
      clear hbb
      obtain ⟨m, rfl⟩ := Int.eq_ofNat_of_zero_le (show 0 ≤ v by have := of_decide_eq_false hb1; omega)
      have hm1' : db.size + 1 ≤ m := by have := of_decide_eq_false hb1; omega
      have hb1n : decide (m ≤ db.size) = false := decide_eq_false (by omega)
      have hb2n : decide (s.size < m) = false := decide_eq_false (by have := of_decide_eq_false hb2; omega)
      have hm2 : m ≤ s.size := by have := of_decide_eq_false hb2; omega
      obtain ⟨⟨k, x, ok⟩, hc2⟩ : ∃ r, Lib.cut ((s.data.toList.take m).drop (d.length + 1)) [61] = r := ⟨_, rfl⟩
      have HF := Aside0.mk (show R = (⟨k.toArray⟩, trimM ⟨x.toArray⟩, ⟨(s.data.toList.drop m).toArray⟩, ok) from by
        rw [← HR.out]
        unfold qAw
        simp only [HCut.out, hat, Int.toNat_natCast, hc2]
        rw [if_neg (by have := HDs.out; omega)])
      have hf2 : strings_Cut.f (s.extract (db.size + 1) m) ⟨#[61]⟩ = some (⟨k.toArray⟩, ⟨x.toArray⟩, ok) := by
        unfold strings_Cut.f
        have hsz : (s.extract (db.size + 1) m).size ≤ s.size := by
          rw [← qAh, qDw, List.length_drop, List.length_take, qAh]
          omega
        rw [if_pos (by omega), show (⟨#[61]⟩ : ByteArray).data.toList = [61] from rfl, qDw, HDs.out, hc2]
      have HRest := Aside0.mk (show s.extract m s.size = ⟨(s.data.toList.drop m).toArray⟩ from by
        apply qAv
        rw [Lib.extract_to_end])
      have hxl : x.length ≤ s.size := by
        have e : x = (Lib.cut ((s.data.toList.take m).drop (d.length + 1)) [61]).2.1 := by rw [hc2]
        rw [e]
        unfold Lib.cut
        split
        · rw [List.length_drop, List.length_drop, List.length_take, qAh]
          omega
        · simp
      clear hc2 hat
      go_wp2_with fail
      refine (strings_Cut.calls (s.extract (db.size + 1) m) ⟨#[61]⟩ ⟨k.toArray⟩ ⟨x.toArray⟩ ok w2 ⟨Tabs.below hT.out HB2.out⟩ hf2).mono ?_
      rintro e w3 ⟨rfl, hd3⟩
      have HB3 := Aside0.mk (qAe HB2.out hd3.below)
      clear hd3 hf2
      obtain ⟨tx, htx⟩ : ∃ t, trimM ⟨x.toArray⟩ = t := ⟨_, rfl⟩
      have HTx := Aside0.mk htx
      clear htx
      have HTS := Aside0.mk (show ∀ w' : World, Calls Tryz.prog 96 #[.string ⟨x.toArray⟩, .string ⟨#[10]⟩] w' fun e w'' => e = .returned (.string tx) ∧ Below w'.heap.size w' w'' from fun w' => (Tryz.strings_TrimSuffix ⟨x.toArray⟩ ⟨#[10]⟩ w' (by rw [qA3]; omega)).mono fun e w'' ⟨h1, h2⟩ => ⟨by rw [h1, ← HTx.out]; rfl, by rw [h2]; exact Below.refl _ _⟩)
      have hmi : (m : Int) ≤ (s.size : Int) := by omega
      have hm0i : 0 ≤ (m : Int) := by omega
      have hxs : (⟨x.toArray⟩ : ByteArray).size ≤ 9223372036854775807 := by rw [qA3]; omega
      go_wp2_with fail
      refine start_ (n := 11) (S := fun w' => Below w3.heap.size w3 w') (ds := []) (bmG 11 0) (by kernel_rfl) rfl (by kernel_rfl) (qAc (Below.refl w3.heap.size w3)) (fun hS => ?_)
      generalize w3.drew = wd at hS ⊢
      refine pure_ (i := 0) (N := some 50) (v := ?_) (a' := ?_) (bmG 11 1) rfl rfl (by kernel_rfl) (fun _ _ _ h => h) (Or.inl ⟨by rfl, ?_⟩) ?_ ?_
      rotate_left
      · intro w'
        go_simp
        with_reducible rfl
      rotate_left
      · simp only [Act.put, List.setIfInBounds_toArray, List.set_cons_zero, List.set_cons_succ, i64_w, i32_w]
        rfl
      refine pure_ (i := 1) (N := some 51) (v := ?_) (a' := ?_) (bmG 11 3) rfl rfl (by kernel_rfl) (fun _ _ _ h => h) (Or.inl ⟨by rfl, ?_⟩) ?_ ?_
      rotate_left
      · intro w'
        go_simp
        with_reducible rfl
      rotate_left
      · simp only [Act.put, List.setIfInBounds_toArray, List.set_cons_zero, List.set_cons_succ, i64_w, i32_w]
        rfl
      refine pure_ (i := 3) (N := some 53) (v := ?_) (a' := ?_) (bmG 11 11) rfl rfl (by kernel_rfl) (fun _ _ _ h => h) (Or.inl ⟨by rfl, ?_⟩) ?_ ?_
      rotate_left
      · intro w'
        go_simp
        with_reducible rfl
      rotate_left
      · simp only [Act.put, List.setIfInBounds_toArray, List.set_cons_zero, List.set_cons_succ, i64_w, i32_w]
        rfl
      refine pure_ (i := 4) (N := some 54) (v := ?_) (a' := ?_) (bmG 11 27) rfl rfl (by kernel_rfl) (fun _ _ _ h => h) (Or.inl ⟨by rfl, ?_⟩) ?_ ?_
      rotate_left
      · intro w'
        go_simp
        with_reducible rfl
      rotate_left
      · simp only [Act.put, List.setIfInBounds_toArray, List.set_cons_zero, List.set_cons_succ, i64_w, i32_w]
        rfl
      refine pure_ (i := 5) (N := some 55) (v := ?_) (a' := ?_) (bmG 11 59) rfl rfl (by kernel_rfl) (fun _ _ _ h => h) (Or.inl ⟨by rfl, ?_⟩) ?_ ?_
      rotate_left
      · intro w'
        go_simp
        with_reducible rfl
      rotate_left
      · simp only [Act.put, List.setIfInBounds_toArray, List.set_cons_zero, List.set_cons_succ, i64_w, i32_w]
        rfl
      refine pure_ (i := 6) (N := some 56) (v := ?_) (a' := ?_) (bmG 11 123) rfl rfl (by kernel_rfl) (fun _ _ _ h => h) (Or.inl ⟨by rfl, ?_⟩) ?_ ?_
      rotate_left
      · intro w'
        go_simp
        with_reducible rfl
      rotate_left
      · simp only [Act.put, List.setIfInBounds_toArray, List.set_cons_zero, List.set_cons_succ, i64_w, i32_w]
        rfl
      refine one_ (i := 2) (N := some 52) (bmG 11 127) rfl rfl (by kernel_rfl) (by decide) (fun Kz hKz => ?_)
      refine goes_ Tryz.func96 (by kernel_rfl) rfl #[.string ⟨x.toArray⟩, .string ⟨#[10]⟩] (by rfl) rfl rfl (by (try simp only [List.map_toArray, List.map_cons, List.map_nil]); first | done | rfl) ?_
      refine (HTS.out _).mono ?_
      rintro e wc ⟨rfl, hb⟩
      refine ⟨_, rfl, ?_⟩
      refine hKz.out _ _ (qAe hS hb) (fun hS => ?_)
      clear hKz Kz
      refine norm_ (a' := ?_) ?_ ?_
      rotate_left
      · show Act.put _ (some 52) _ = _
        simp only [Act.put, List.setIfInBounds_toArray, List.set_cons_zero, List.set_cons_succ, i64_w, i32_w]
        rfl
      refine pure_ (i := 7) (N := some 2) (v := ?_) (a' := ?_) (bmG 11 255) rfl rfl (by kernel_rfl) (fun _ _ _ h => h) (Or.inl ⟨by rfl, ?_⟩) ?_ ?_
      rotate_left
      · intro w'
        go_simp
        with_reducible rfl
      rotate_left
      · simp only [Act.put, List.setIfInBounds_toArray, List.set_cons_zero, List.set_cons_succ, i64_w, i32_w]
        rfl
      refine pure_ (i := 8) (N := some 3) (v := ?_) (a' := ?_) (bmG 11 511) rfl rfl (by kernel_rfl) (fun _ _ _ h => h) (Or.inl ⟨by rfl, ?_⟩) ?_ ?_
      rotate_left
      · intro w'
        go_simp
        with_reducible rfl
      rotate_left
      · simp only [Act.put, List.setIfInBounds_toArray, List.set_cons_zero, List.set_cons_succ, i64_w, i32_w]
        rfl
      refine pure_ (i := 9) (N := some 4) (v := ?_) (a' := ?_) (bmG 11 1023) rfl rfl (by kernel_rfl) (fun _ _ _ h => h) (Or.inl ⟨by rfl, ?_⟩) ?_ ?_
      rotate_left
      · intro w'
        go_simp
        with_reducible rfl
      rotate_left
      · simp only [Act.put, List.setIfInBounds_toArray, List.set_cons_zero, List.set_cons_succ, i64_w, i32_w]
        rfl
      refine pure_ (i := 10) (N := some 5) (v := ?_) (a' := ?_) (bmG 11 2047) rfl rfl (by kernel_rfl) (fun _ _ _ h => h) (Or.inl ⟨by rfl, ?_⟩) ?_ ?_
      rotate_left
      · intro w'
        go_simp
        with_reducible rfl
      rotate_left
      · simp only [Act.put, List.setIfInBounds_toArray, List.set_cons_zero, List.set_cons_succ, i64_w, i32_w]
        rfl
      refine done_ (by kernel_rfl) ?_
      go_wp2_with fail
      (try simp only [Exit.inBlock, Exit.then])
      refine bodyPost_ret (qA5 (rs := [.tmp 2, .tmp 3, .tmp 4, .tmp 5]) rfl (by simp) (.tmp (.tmp (.tmp (.tmp .nil))))) rfl ?_
      rw [HF.out, ← HRest.out, HTx.out]
      exact ⟨rfl, qAe HB3.out hS⟩
end Go.Proofs.YtdijnmcfpbceaaaGreatDoor.X

namespace Go.Proofs.YtdijnmcfpbceaaaGreatDoor.X
open Go.RowKit Go.Proofs.YtdijnmcfpbceaaaGreatDoorW.PrintWords
set_option linter.unusedVariables false
theorem qEj {P : Program} {W : World} {name nm : String} {d : DataW Unit} {rest : List (String × DataW Unit)} {g : Nat} {t : TypeId} {ms : Array (String × TypeId)}
    (hg : P.globalNamed name = some g) (hty : (P.globals[g]?).map (·.type) = some t) (ht : P.underlying t = some (.interface ms))
    (h : laidMet P ((name, .iface nm d) :: rest) W) : ∃ ev, W.cell? ⟨g, 0, none⟩ = some ev ∧ (ev = .nilIface ∨ ∃ te pe, ev = .iface te pe) := by
  obtain ⟨ps, ⟨g', t', cs, fuel, p, q, hg', ht', hvar, hd, _, _⟩, _⟩ := h
  obtain rfl := Option.some.inj (hg.symm.trans hg')
  obtain rfl := Option.some.inj (hty.symm.trans ht')
  obtain ⟨f1, u, v, hcs, _, _⟩ := iface_of_trod ht hd
  have hc := World.var?_cell hg hvar 0
  refine ⟨.iface u v, ?_, .inr ⟨u, v, rfl⟩⟩
  rw [hc, ← Array.getElem?_toList, hcs]
  rfl
theorem qJ6 {W : World} {a b c d : String × DataW Unit} {rest : List (String × DataW Unit)} (h : laidMet Tryz.prog (a :: b :: c :: d :: ("strconv.ErrRange", Rows.laid_strconv_ErrRange) :: ("strconv.ErrSyntax", Rows.laid_strconv_ErrSyntax) :: rest) W) : ErrV W := by
  have h1 := qBz (qBz (qBz (qBz h)))
  have h2 := qBz h1
  exact ⟨qEj (g := 6) (t := 123) (by kernel_rfl) (by kernel_rfl) Tryz.underlying123 h2, qEj (g := 7) (t := 123) (by kernel_rfl) (by kernel_rfl) Tryz.underlying123 h1⟩
end Go.Proofs.YtdijnmcfpbceaaaGreatDoor.X

namespace Go.Proofs.YtdijnmcfpbceaaaGreatDoor.X
open Go.RowKit Go.WideShapes Go.ChangeShapes Go.Proofs.YtdijnmcfpbceaaaGreatDoorW.PrintWords Go.Proofs.YtdijnmcfpbceaaaGreatDoor.P
set_option linter.unusedVariables false
section
variable {H : Type} {enc : TypeId × Value → H} {w : World} {base : Nat} {spare : Nat → Bool} {held : Bool}
theorem qIc {P : Program} {α : Type} (d : Kd α) (dflt : α) {t e : TypeId} (ht : P.underlying t = some (.slice e)) (hc : P.cellsOf e = d.sz) {fuel : Nat} {cs : List Value} {x : DataW H × List MemPlace}
    (hel : ∀ n cs x, n < fuel → DataW.trod enc P w base spare held n e cs = some x → ∃ y, d.K w y cs) (h : DataW.trod enc P w base spare held fuel t cs = some x) :
    ∃ (A : Option Addr) (c : Nat) (l : List α), cs = [.slice A l.length c] ∧ l.length ≤ c ∧ d.C w A l.length l := by
  rcases DataW.trod_slice ht h with ⟨rfl, _⟩ | ⟨a, len, cap, elems, rest, n, rfl, rfl, _, hb, hl, hm, hlen, hE, _, _⟩
  · exact ⟨none, 0, [], rfl, Nat.le_refl _, rfl, by simp, fun h => absurd h (by simp)⟩
  · haveI : Inhabited α := ⟨dflt⟩
    have hone : ∀ i, i < len → ∃ y : α, ∃ c : List Value, c.length = d.sz ∧ d.K w y c ∧ ∀ j u, c[j]? = some u → w.cell? (a.add (i * d.sz + j)) = some u := by
      intro i hi
      have h1 := hE i hi
      rw [List.getElem?_eq_getElem (by omega)] at h1
      obtain ⟨cs', h2, h3⟩ := Option.bind_eq_some_iff.1 h1
      obtain ⟨y, hy⟩ := hel n cs' _ (Nat.lt_succ_self n) h3
      obtain ⟨_, h4, h5⟩ := World.cells?_some h2
      rw [hc] at h4 h5
      refine ⟨y, cs', h4, hy, fun j u hj => ?_⟩
      have hjl : j < d.sz := by
        have := (List.getElem?_eq_some_iff.1 hj).1; omega
      have h6 := h5 j hjl
      rw [Go.Deep.add_add] at h6
      rw [h6, hj]
    obtain ⟨f, hf⟩ := Go.Deep.choose_lt hone
    refine ⟨some a, cap, (List.range len).map f, by simp, by simpa using hl, by simp, by simpa [maxLen] using Nat.le_trans hl hm, fun _ => ⟨a, rfl, fun j p hp => ?_⟩⟩
    have hj : j < len := by
      have := (List.getElem?_eq_some_iff.1 hp).1; simpa using this
    have : f j = p := by simpa [hj] using hp
    subst this
    exact hf j hj
end
end Go.Proofs.YtdijnmcfpbceaaaGreatDoor.X

namespace Go.Proofs.YtdijnmcfpbceaaaGreatDoor.X
open Go.RowKit Go.WideShapes Go.ChangeShapes Go.Proofs.YtdijnmcfpbceaaaGreatDoorW.PrintWords Go.Proofs.YtdijnmcfpbceaaaGreatDoor.P
set_option linter.unusedVariables false
section
variable {H : Type} {enc : TypeId × Value → H} {w : World} {base : Nat} {spare : Nat → Bool} {held : Bool}
set_option maxRecDepth 100000 in
theorem trod_N (fuel : Nat) (cs : List Value) (x : DataW H × List MemPlace) (h : DataW.trod enc Tryz.prog w base spare held fuel 47 cs = some x) : ∃ y : S47, k47.K w y cs := by
  obtain ⟨xs, n, rfl, _, hl, hxl, hf⟩ := DataW.trod_struct Tryz.underlying47 h
  have hC : Tryz.prog.cellsOf 47 = 3 := by kernel_rfl
  rw [hC] at hl
  obtain ⟨c0, c1, c2, rfl⟩ : ∃ c0 c1 c2, cs = [c0, c1, c2] := by
    rcases cs with _ | ⟨c0, _ | ⟨c1, _ | ⟨c2, _ | ⟨c3, cs⟩⟩⟩⟩ <;> simp only [List.length_cons, List.length_nil] at hl <;> first | (exact ⟨c0, c1, c2, rfl⟩) | omega
  have hx : ∀ i, i < 3 → ∃ z, xs[i]? = some z := fun i hi => ⟨_, List.getElem?_eq_getElem (by rw [hxl]; exact hi)⟩
  have t1 : Tryz.prog.cellsOf 3 = 1 := by kernel_rfl
  have t3 : Tryz.prog.cellsOf 9 = 1 := by kernel_rfl
  obtain ⟨z0, e0⟩ := hx 0 (by omega)
  obtain ⟨z1, e1⟩ := hx 1 (by omega)
  obtain ⟨z2, e2⟩ := hx 2 (by omega)
  have f0 : DataW.trod enc Tryz.prog w base spare held n 9 (([c0, c1, c2].drop 0).take (Tryz.prog.cellsOf 9)) = some z0 := (hf 0 _ rfl).trans e0
  have f1 : DataW.trod enc Tryz.prog w base spare held n 3 (([c0, c1, c2].drop 1).take (Tryz.prog.cellsOf 3)) = some z1 := (hf 1 _ rfl).trans e1
  have f2 : DataW.trod enc Tryz.prog w base spare held n 9 (([c0, c1, c2].drop 2).take (Tryz.prog.cellsOf 9)) = some z2 := (hf 2 _ rfl).trans e2
  simp only [t1, t3, List.drop_zero, List.drop_succ_cons, List.take_succ_cons, List.take_zero] at f0 f1 f2
  obtain ⟨s0, g0, _, _⟩ := DataW.trod_string Tryz.underlying9 f0
  obtain ⟨n1, g1, _, _⟩ := DataW.trod_int Tryz.underlying3 f1
  obtain ⟨s2, g2, _, _⟩ := DataW.trod_string Tryz.underlying9 f2
  simp only [List.cons.injEq, and_true] at g0 g1 g2
  subst g0 g1 g2
  exact ⟨⟨s0, n1, s2⟩, k47_mk w ⟨s0, n1, s2⟩⟩
set_option maxRecDepth 100000 in
theorem qJx {r : Reach} {b0 : Nat} {v : Value} {d : DataW H} {ps : List MemPlace} (hval : Value.okWide Tryz.prog w r b0 22 v) (hd : DataW.Trod enc Tryz.prog w base spare held 22 v d ps) :
    ∃ (A : Option Addr) (c : Nat) (l : List S47), v = .slice A l.length c ∧ l.length ≤ c ∧ k47.C w A l.length l := by
  obtain ⟨a, n, c, rfl⟩ := okWide_slice Tryz.underlying22 hval
  obtain ⟨fuel, hf⟩ := hd
  obtain ⟨A4, d4, l4, g4, h4, r4⟩ := qIc k47 z47 Tryz.underlying22 (by kernel_rfl) (fun m cs x hm h => trod_N m cs x h) hf
  have g4 : [Value.slice a n c] = [.slice A4 l4.length d4] := g4
  simp only [List.cons.injEq, and_true] at g4
  exact ⟨A4, d4, l4, g4, h4, r4⟩
end
end Go.Proofs.YtdijnmcfpbceaaaGreatDoor.X

namespace Go.Proofs.YtdijnmcfpbceaaaGreatDoor.X
open Go.RowKit Go.Proofs.YtdijnmcfpbceaaaGreatDoorW.PrintWords Go.Proofs.YtdijnmcfpbceaaaGreatDoorW.PrintLast Go.Proofs.YtdijnmcfpbceaaaGreatDoorW.PrintMore Go.Proofs.YtdijnmcfpbceaaaGreatDoor.P
set_option linter.unusedVariables false
set_option linter.unusedSimpArgs false
theorem qG7 (w : World) (A B : Array Value) (t t' : TypeId) : ((w.alloc (.cells A t)).alloc (.cells B t')).heap[w.heap.size]? = some (.cells A t (0, 0)) ∧ ((w.alloc (.cells A t)).alloc (.cells B t')).heap[w.heap.size + 1]? = some (.cells B t' (0, 0)) := by
  refine ⟨qAn (qA7 w _) _, ?_⟩
  have := qA7 (w.alloc (.cells A t)) (.cells B t')
  rw [show (w.alloc (.cells A t)).heap.size = w.heap.size + 1 by simp [World.alloc, -World.alloc_eq]] at this
  exact this
def strSz : Value → Nat
  | .string s => s.size
  | _ => 0
theorem qD7 {w w1 : World} (h : Below w.heap.size w w1) (g : Nat) (hg : w.heap.size ≤ g) (o : Nat) (v : Value) : Below w.heap.size w (w1.setCell ⟨g, o, none⟩ v) :=
  ⟨h.os, h.tape, h.output, by rw [sizeG]; exact h.size, fun k hk => (Below.heap_setCell w1 ⟨g, o, none⟩ v k (by show k ≠ g; omega)).trans (h.block k hk)⟩
def entV (x : EntT) : Array Value := #[.string x.name, .string x.link, .string x.data, .int .i64 x.kind]
theorem qGh {s : ByteArray} (h : (qAw s).2.2.2 = true) : (qAw s).2.2.1.size < s.size := by
  unfold qAw at h ⊢
  dsimp only at h ⊢
  split
  · rename_i v hv
    rw [hv] at h
    dsimp only at h
    split
    · rename_i hc
      rw [if_pos hc] at h
      cases h
    · rename_i hc
      rw [qA3, List.length_drop, qAh]
      omega
  · rename_i hx
    split at h
    · rename_i v hv
      exact absurd hv (hx v)
    · cases h
set_option maxHeartbeats 4000000 in
set_option maxRecDepth 100000 in
theorem qHb (w0 : World) (gr : Nat) (l : List Int) (b : Bool) (x : EntT) (ex : ByteArray) (w : World) (hT : Aside0 (Tabs w0)) (hE : Aside0 (ErrV w0)) (hgr : w0.heap.size ≤ gr) (hB : Below w0.heap.size w0 w) (h : UAt w0 w gr (l, b)) (hex : ex.size ≤ 1000000) :
    Calls Tryz.prog 53 #[.pointer (some ⟨gr, 0, none⟩), .agg (entV x), .string ex] w fun e w' => e = .returned (.agg (entV (toldM (ex.size + 1) x ex).1)) ∧ UAt w0 w' gr (l, b || (toldM (ex.size + 1) x ex).2) ∧ StepG w w' gr none := by
  obtain ⟨R, hR⟩ : ∃ R, toldM (ex.size + 1) x ex = R := ⟨_, rfl⟩
  rw [hR]
  have HR := Aside0.mk hR
  clear hR
  have hgl := h.lt
  have HB := Aside0.mk hB
  have H := Aside0.mk h
  clear hB h
  have HT2 := Aside0.mk (qG7 w #[.string x.name, .string x.link, .string x.data, .int .i64 x.kind] #[.string ⟨#[]⟩, .string ⟨#[]⟩, .string ⟨#[]⟩, .int .i64 0] 82 82)
  have HB0 := Aside0.mk (qAb (qAb (Below.refl w.heap.size w) (.cells #[.string x.name, .string x.link, .string x.data, .int .i64 x.kind] 82)) (.cells #[.string ⟨#[]⟩, .string ⟨#[]⟩, .string ⟨#[]⟩, .int .i64 0] 82))
  have HBz := Aside0.mk (qAe HB.out HB0.out)
  have HU0 := Aside0.mk (H.out.keep (HB0.out.block gr hgl))
  have HS0 := Aside0.mk (StepG.of_below (sb := gr) (r := none) HB0.out)
  clear HB H HB0
  unfold entV
  go_enter Tryz.func53, Tryz.ntmps53
  go_wp2_with fail
  generalize (w.alloc (.cells #[.string x.name, .string x.link, .string x.data, .int .i64 x.kind] 82)).alloc (.cells #[.string ⟨#[]⟩, .string ⟨#[]⟩, .string ⟨#[]⟩, .int .i64 0] 82) = W0 at *
  have hgx : w.heap.size ≤ w.heap.size := Nat.le_refl _
  have hgxr : w.heap.size ≠ gr := by omega
  have hgy : w.heap.size ≤ w.heap.size + 1 := by omega
  have hgyr : w.heap.size + 1 ≠ gr := by omega
  generalize hgg : w.heap.size = gx at HT2 hgxr hgyr
  have hgxw : w.heap.size ≤ gx := by omega
  have hxy : gx ≠ gx + 1 := by omega
  generalize hgh : gx + 1 = gy at *
  have hgy : w.heap.size ≤ gy := by omega
  go_loopw [2] (fun v2 wr => ∃ (e' : ByteArray) (x' : EntT) (f : Nat), v2 = .string e' ∧ e'.size < f ∧ e'.size ≤ 1000000 ∧ Aside0 (R = toldM f x' e') ∧ Aside0 (wr.heap[gx]? = some (.cells (entV x') 82 (0, 0))) ∧ Aside0 (wr.heap[gy]? = some (.cells #[.string ⟨#[]⟩, .string ⟨#[]⟩, .string ⟨#[]⟩, .int .i64 0] 82 (0, 0))) ∧ Aside0 (UAt w0 wr gr (l, b)) ∧ Aside0 (StepG w wr gr none) ∧ Aside0 (Below w0.heap.size w0 wr)) (fun v _ => strSz v)
  case atStart => exact ⟨ex, x, ex.size + 1, rfl, by omega, hex, ⟨HR.out.symm⟩, ⟨HT2.out.1⟩, ⟨HT2.out.2⟩, HU0, HS0, HBz⟩
  case round =>
    clear HT2 HU0 HS0 HBz HR
    obtain ⟨e', x', f, rfl, hf, he6, HR, HX, HY, HU, HS, HB⟩ := hrel
    obtain ⟨f, rfl⟩ : ∃ k, f = k + 1 := ⟨f - 1, by omega⟩
    have c0 := (show wr.cell? ⟨gx, 0, none⟩ = some (.string x'.name) from (qAd HX.out 0).trans rfl)
    have c1 := (show wr.cell? ⟨gx, 1, none⟩ = some (.string x'.link) from (qAd HX.out 1).trans rfl)
    have c2 := (show wr.cell? ⟨gx, 2, none⟩ = some (.string x'.data) from (qAd HX.out 2).trans rfl)
    have c3 := (show wr.cell? ⟨gx, 3, none⟩ = some (.int .i64 x'.kind) from (qAd HX.out 3).trans rfl)
    by_cases he0 : e'.size = 0
    · have hen : e'.toList = [] := (qAy _).2 he0
      have hne : (e'.toList != []) = false := by rw [hen]; rfl
      have hen2 : (e'.toList == []) = true := by rw [hen]; rfl
      clear hen
      have HRx := Aside0.mk (show R = (x', false) from by
        rw [HR.out]
        unfold toldM
        rw [if_pos he0])
      have g0 := Aside0.mk (qAp HY.out 0 (.string x'.name))
      have g1 := Aside0.mk (qAp g0.out 1 (.string x'.link))
      have g2 := Aside0.mk (qAp g1.out 2 (.string x'.data))
      have g3 := Aside0.mk (qAp g2.out 3 (.int .i64 x'.kind))
      have yg0 := (show (wr).cell? ⟨gy, 0, none⟩ = some (.string ⟨#[]⟩) from (qAd HY.out 0).trans rfl)
      have yg1 := (show ((wr).setCell ⟨gy, 0, none⟩ (.string x'.name)).cell? ⟨gy, 1, none⟩ = some (.string ⟨#[]⟩) from (qAd g0.out 1).trans rfl)
      have yg2 := (show (((wr).setCell ⟨gy, 0, none⟩ (.string x'.name)).setCell ⟨gy, 1, none⟩ (.string x'.link)).cell? ⟨gy, 2, none⟩ = some (.string ⟨#[]⟩) from (qAd g1.out 2).trans rfl)
      have yg3 := (show ((((wr).setCell ⟨gy, 0, none⟩ (.string x'.name)).setCell ⟨gy, 1, none⟩ (.string x'.link)).setCell ⟨gy, 2, none⟩ (.string x'.data)).cell? ⟨gy, 3, none⟩ = some (.int .i64 0) from (qAd g2.out 3).trans rfl)
      have fg0 := fun k => qAf HY.out k
      have fg1 := fun k => qAf g0.out k
      have fg2 := fun k => qAf g1.out k
      have fg3 := fun k => qAf g2.out k
      have HF := Aside0.mk (show ∀ (e : Ending) (w' : World), e = .returned (.agg (entV x')) → w' = ((((wr).setCell ⟨gy, 0, none⟩ (.string x'.name)).setCell ⟨gy, 1, none⟩ (.string x'.link)).setCell ⟨gy, 2, none⟩ (.string x'.data)).setCell ⟨gy, 3, none⟩ (.int .i64 x'.kind) → e = .returned (.agg (entV R.1)) ∧ UAt w0 w' gr (l, b || R.2) ∧ StepG w w' gr none from fun e w' h1 h2 => by
        rw [h1, h2, HRx.out]
        refine ⟨rfl, UAt.keep (w := wr) (by rw [Bool.or_false]; exact HU.out) ?_, ((((HS.out).setNew gy hgy _ _).setNew gy hgy _ _).setNew gy hgy _ _).setNew gy hgy _ _⟩
        rw [Below.heap_setCell _ _ _ _ (by show gr ≠ gy; omega), Below.heap_setCell _ _ _ _ (by show gr ≠ gy; omega), Below.heap_setCell _ _ _ _ (by show gr ≠ gy; omega), Below.heap_setCell _ _ _ _ (by show gr ≠ gy; omega)])
      clear g0 g1 g2
      go_wp2_with fail
      (try simp only [Exit.inBlock, Exit.then])
      refine bodyPost_ret (qA1 rfl (.cell gy 82 _ (0, 0) _ rfl g3.out Tryz.underlying82 rfl (by kernel_rfl) .nil)) rfl ?_
      exact HF.out _ _ rfl rfl
    · have hnz : e'.toList ≠ [] := fun h => he0 ((qAy _).1 h)
      have hne : (e'.toList != []) = true := bne_iff_ne.2 hnz
      have hen2 : (e'.toList == []) = false := beq_eq_false_iff_ne.2 hnz
      go_wp2_with fail
      refine (qE4 e' wr ⟨Tabs.below hT.out HB.out⟩ ⟨hE.out.below HB.out⟩ he6).mono ?_
      rintro e w2 ⟨rfl, hb2⟩
      have HB2 := Aside0.mk (qAe HB.out hb2)
      have HX2 := Aside0.mk (qAg HX.out hb2)
      have HY2 := Aside0.mk (qAg HY.out hb2)
      have HU2 := Aside0.mk (HU.out.keep (hb2.block gr HU.out.lt))
      have HS2 := Aside0.mk (HS.out.trans (StepG.of_below hb2) (.inl rfl))
      have HRr := Aside0.mk (@qGh e')
      have HRs := Aside0.mk (show R = if (qAw e').2.2.2 = false then (x', true) else toldM f (putM x' (qAw e').1 (qAw e').2.1) (qAw e').2.2.1 from by
        rw [HR.out]
        conv => lhs; unfold toldM
        rw [if_neg he0])
      clear hb2 HX HY HU HS HB HR c0 c1 c2 c3 hne hen2 hnz
      generalize qAw e' = r at *
      obtain ⟨rk, rv, rr, rok⟩ := r
      dsimp only at *
      obtain ⟨z1, hfz⟩ := HU2.out.bad
      dsimp only at z1
      have c0 := (show w2.cell? ⟨gx, 0, none⟩ = some (.string x'.name) from (qAd HX2.out 0).trans rfl)
      have c1 := (show w2.cell? ⟨gx, 1, none⟩ = some (.string x'.link) from (qAd HX2.out 1).trans rfl)
      cases rok with
      | false =>
        have HRx := Aside0.mk (show R = (x', true) from by rw [HRs.out, if_pos rfl])
        have HU3 := Aside0.mk (HU2.out.set true)
        have HX3 := Aside0.mk ((Below.heap_setCell w2 ⟨gr, 1, none⟩ (.bool true) gx hgxr).trans HX2.out)
        have HY := Aside0.mk ((Below.heap_setCell w2 ⟨gr, 1, none⟩ (.bool true) gy hgyr).trans HY2.out)
        have HS3 := Aside0.mk (HS2.out.set 1 (.bool true))
        have c0 := (show (w2.setCell ⟨gr, 1, none⟩ (.bool true)).cell? ⟨gx, 0, none⟩ = some (.string x'.name) from (qAd HX3.out 0).trans rfl)
        have c1 := (show (w2.setCell ⟨gr, 1, none⟩ (.bool true)).cell? ⟨gx, 1, none⟩ = some (.string x'.link) from (qAd HX3.out 1).trans rfl)
        have c2 := (show (w2.setCell ⟨gr, 1, none⟩ (.bool true)).cell? ⟨gx, 2, none⟩ = some (.string x'.data) from (qAd HX3.out 2).trans rfl)
        have c3 := (show (w2.setCell ⟨gr, 1, none⟩ (.bool true)).cell? ⟨gx, 3, none⟩ = some (.int .i64 x'.kind) from (qAd HX3.out 3).trans rfl)
        have g0 := Aside0.mk (qAp HY.out 0 (.string x'.name))
        have g1 := Aside0.mk (qAp g0.out 1 (.string x'.link))
        have g2 := Aside0.mk (qAp g1.out 2 (.string x'.data))
        have g3 := Aside0.mk (qAp g2.out 3 (.int .i64 x'.kind))
        have yg0 := (show (w2.setCell ⟨gr, 1, none⟩ (.bool true)).cell? ⟨gy, 0, none⟩ = some (.string ⟨#[]⟩) from (qAd HY.out 0).trans rfl)
        have yg1 := (show ((w2.setCell ⟨gr, 1, none⟩ (.bool true)).setCell ⟨gy, 0, none⟩ (.string x'.name)).cell? ⟨gy, 1, none⟩ = some (.string ⟨#[]⟩) from (qAd g0.out 1).trans rfl)
        have yg2 := (show (((w2.setCell ⟨gr, 1, none⟩ (.bool true)).setCell ⟨gy, 0, none⟩ (.string x'.name)).setCell ⟨gy, 1, none⟩ (.string x'.link)).cell? ⟨gy, 2, none⟩ = some (.string ⟨#[]⟩) from (qAd g1.out 2).trans rfl)
        have yg3 := (show ((((w2.setCell ⟨gr, 1, none⟩ (.bool true)).setCell ⟨gy, 0, none⟩ (.string x'.name)).setCell ⟨gy, 1, none⟩ (.string x'.link)).setCell ⟨gy, 2, none⟩ (.string x'.data)).cell? ⟨gy, 3, none⟩ = some (.int .i64 0) from (qAd g2.out 3).trans rfl)
        have fg0 := fun k => qAf HY.out k
        have fg1 := fun k => qAf g0.out k
        have fg2 := fun k => qAf g1.out k
        have fg3 := fun k => qAf g2.out k
        have HF := Aside0.mk (show ∀ (e : Ending) (w' : World), e = .returned (.agg (entV x')) → w' = ((((w2.setCell ⟨gr, 1, none⟩ (.bool true)).setCell ⟨gy, 0, none⟩ (.string x'.name)).setCell ⟨gy, 1, none⟩ (.string x'.link)).setCell ⟨gy, 2, none⟩ (.string x'.data)).setCell ⟨gy, 3, none⟩ (.int .i64 x'.kind) → e = .returned (.agg (entV R.1)) ∧ UAt w0 w' gr (l, b || R.2) ∧ StepG w w' gr none from fun e w' h1 h2 => by
          rw [h1, h2, HRx.out]
          refine ⟨rfl, UAt.keep (w := w2.setCell ⟨gr, 1, none⟩ (.bool true)) (by rw [Bool.or_true]; exact HU3.out) ?_, ((((HS3.out).setNew gy hgy _ _).setNew gy hgy _ _).setNew gy hgy _ _).setNew gy hgy _ _⟩
          rw [Below.heap_setCell _ _ _ _ (by show gr ≠ gy; omega), Below.heap_setCell _ _ _ _ (by show gr ≠ gy; omega), Below.heap_setCell _ _ _ _ (by show gr ≠ gy; omega), Below.heap_setCell _ _ _ _ (by show gr ≠ gy; omega)])
        clear g0 g1 g2
        go_wp2_with fail
        (try simp only [Exit.inBlock, Exit.then])
        refine bodyPost_ret (qA1 rfl (.cell gy 82 _ (0, 0) _ rfl g3.out Tryz.underlying82 rfl (by kernel_rfl) .nil)) rfl ?_
        exact HF.out _ _ rfl rfl
      | true =>
        have hrs : rr.size < e'.size := HRr.out rfl
        obtain ⟨bk, hbk⟩ : ∃ q, (rk.toList == pathS.toList) = q := ⟨_, rfl⟩
        have hbk1 : (rk.toList == [112, 97, 116, 104]) = bk := by rw [← hbk, show pathS.toList = [112, 97, 116, 104] from by rw [ByteArray.toList_eq]; rfl]
        have HP := Aside0.mk (show (putM x' rk rv) = if bk = true then { x' with name := rv } else { x' with link := rv } from by
          unfold putM
          by_cases e : rk = pathS
          · rw [if_pos e, if_pos]
            rw [← hbk, e]
            simp
          · rw [if_neg e, if_neg]
            rw [← hbk]
            intro h
            apply e
            have := beq_iff_eq.1 h
            rw [ByteArray.toList_eq, ByteArray.toList_eq] at this
            exact qAv this)
        rw [if_neg (by simp)] at HRs
        have hf2 := fun k => qAf HX2.out k
        cases bk with
        | true =>
          have HXn := Aside0.mk (qAp HX2.out 0 (.string rv))
          go_wp2_with fail
          refine ⟨⟨rr, { x' with name := rv }, f, rfl, by omega, by omega, ⟨by rw [HRs.out, HP.out]; rfl⟩, HXn, ⟨(Below.heap_setCell w2 ⟨gx, 0, none⟩ _ gy (by show gy ≠ gx; omega)).trans HY2.out⟩, ⟨HU2.out.keep (Below.heap_setCell w2 ⟨gx, 0, none⟩ _ gr (by show gr ≠ gx; omega))⟩, ⟨HS2.out.setNew gx hgxw _ _⟩, ⟨qD7 HB2.out gx (by omega) _ _⟩⟩, by simp only [strSz]; omega⟩
        | false =>
          have HXn := Aside0.mk (qAp HX2.out 1 (.string rv))
          go_wp2_with fail
          refine ⟨⟨rr, { x' with link := rv }, f, rfl, by omega, by omega, ⟨by rw [HRs.out, HP.out]; rfl⟩, HXn, ⟨(Below.heap_setCell w2 ⟨gx, 1, none⟩ _ gy (by show gy ≠ gx; omega)).trans HY2.out⟩, ⟨HU2.out.keep (Below.heap_setCell w2 ⟨gx, 1, none⟩ _ gr (by show gr ≠ gx; omega))⟩, ⟨HS2.out.setNew gx hgxw _ _⟩, ⟨qD7 HB2.out gx (by omega) _ _⟩⟩, by simp only [strSz]; omega⟩
end Go.Proofs.YtdijnmcfpbceaaaGreatDoor.X

namespace Go.Proofs.YtdijnmcfpbceaaaGreatDoor.X
open Go.RowKit Go.Proofs.YtdijnmcfpbceaaaGreatDoorW.PrintWords Go.Proofs.YtdijnmcfpbceaaaGreatDoorW.PrintLast Go.Proofs.YtdijnmcfpbceaaaGreatDoorW.PrintMore Go.Proofs.YtdijnmcfpbceaaaGreatDoor.P
set_option linter.unusedVariables false
set_option linter.unusedSimpArgs false
theorem qFj (l : List Int) : (strOfNums l).size = l.length := by rw [qB1, qA3, List.length_map]
theorem qHg (b : List Int) : (readR b).2.2.2.1.size ≤ b.length := by
  unfold readR
  split
  · show (readL b).size ≤ _
    unfold readL fieldR
    rw [qFj]
    have h1 := List.Sublist.length_le (List.takeWhile_sublist (fun x : Int => x != 0) (l := (b.take 257).drop 157))
    rw [List.length_drop, List.length_take] at h1
    omega
  · exact Nat.zero_le _
theorem qB2 (l : List Int) (b : Bool) (hb : Bytes l) : (entryM (l, b)).1.data.size ≤ l.length ∧ (entryM (l, b)).1.link.size ≤ l.length ∧ (entryM (l, b)).2.1.length ≤ l.length ∧ Bytes (entryM (l, b)).2.1 := by
  unfold entryM
  dsimp only
  have h1 := qCi (l, b) 512
  have h2 := qB9 (st := (l, b)) hb 512
  generalize takeM (l, b) 512 = t1 at *
  have h3 := qHg t1.1
  have h4 := qCi (t1.2.1, t1.2.2 || !(readR t1.1).2.2.2.2) (readR t1.1).2.2.1
  have h5 := qB9 (st := (t1.2.1, t1.2.2 || !(readR t1.1).2.2.2.2)) h2.2 (readR t1.1).2.2.1
  generalize takeM (t1.2.1, t1.2.2 || !(readR t1.1).2.2.2.2) (readR t1.1).2.2.1 = t2 at *
  have h6 := qCi t2.2 ((512 - (readR t1.1).2.2.1.tmod 512).tmod 512)
  have h7 := qB9 (st := t2.2) h5.2 ((512 - (readR t1.1).2.2.1.tmod 512).tmod 512)
  generalize takeM t2.2 ((512 - (readR t1.1).2.2.1.tmod 512).tmod 512) = t3 at *
  dsimp only at *
  rw [qFj]
  exact ⟨by omega, by omega, by omega, h7.2⟩
theorem qG9 (s : ByteArray) : (trimM s).size ≤ s.size := by
  unfold trimM Lib.trimSuffix
  rw [qA3]
  split
  · rw [List.length_take, qAh]
    omega
  · rw [qAh]
    exact Nat.le_refl _
theorem qIt (l s : List UInt8) : (Lib.cut l s).2.1.length ≤ l.length := by
  unfold Lib.cut
  split
  · rw [List.length_drop]
    omega
  · simp
theorem qFm (s : ByteArray) : (qAw s).2.1.size ≤ s.size ∧ (qAw s).2.2.1.size ≤ s.size := by
  unfold qAw
  dsimp only
  split
  · split
    · exact ⟨Nat.zero_le _, Nat.zero_le _⟩
    · rename_i v hv hc
      refine ⟨Nat.le_trans (qG9 _) ?_, ?_⟩
      · rw [qA3]
        refine Nat.le_trans (qIt _ _) ?_
        rw [List.length_drop, List.length_take, qAh]
        omega
      · rw [qA3, List.length_drop, qAh]
        omega
  · exact ⟨Nat.zero_le _, Nat.zero_le _⟩
theorem qEt : ∀ (f : Nat) (x : EntT) (e : ByteArray) (n : Nat), x.link.size ≤ n → e.size ≤ n → (toldM f x e).1.data = x.data ∧ (toldM f x e).1.link.size ≤ n ∧ (toldM f x e).1.kind = x.kind
  | 0, x, e, n, h, _ => ⟨rfl, h, rfl⟩
  | f + 1, x, e, n, h, he => by
    unfold toldM
    split
    · exact ⟨rfl, h, rfl⟩
    · dsimp only
      split
      · exact ⟨rfl, h, rfl⟩
      · obtain ⟨a, b⟩ := qFm e
        have hp : (putM x (qAw e).1 (qAw e).2.1).data = x.data ∧ (putM x (qAw e).1 (qAw e).2.1).link.size ≤ n ∧ (putM x (qAw e).1 (qAw e).2.1).kind = x.kind := by
          unfold putM
          split
          · exact ⟨rfl, h, rfl⟩
          · exact ⟨rfl, by show (qAw e).2.1.size ≤ n; omega, rfl⟩
        obtain ⟨c, d, g⟩ := qEt f _ (qAw e).2.2.1 n hp.2.1 (by omega)
        exact ⟨c.trans hp.1, d, g.trans hp.2.2⟩
set_option maxHeartbeats 4000000 in
set_option maxRecDepth 100000 in
theorem qGe (w0 : World) (gr : Nat) (l : List Int) (b : Bool) (w : World) (hT : Aside0 (Tabs w0)) (hE : Aside0 (ErrV w0)) (hgr : w0.heap.size ≤ gr) (hB : Below w0.heap.size w0 w) (h : UAt w0 w gr (l, b)) (hl : l.length ≤ 1000000) (hby : Bytes l) :
    Calls Tryz.prog 39 #[.pointer (some ⟨gr, 0, none⟩)] w fun e w' => e = .returned (.agg #[.string (nodeM (l, b)).1.f0, .int .i64 (nodeM (l, b)).1.f1, .string (nodeM (l, b)).1.f2]) ∧ UAt w0 w' gr (nodeM (l, b)).2 ∧ StepG w w' gr none := by
  obtain ⟨R, hR⟩ : ∃ R, nodeM (l, b) = R := ⟨_, rfl⟩
  rw [hR]
  have HR := Aside0.mk hR
  clear hR
  have hgl := h.lt
  have HB := Aside0.mk (qAb hB (.cells #[.string ⟨#[]⟩, .int .i64 0, .string ⟨#[]⟩] 47))
  have H := Aside0.mk (h.keep (w1 := w.alloc (.cells #[.string ⟨#[]⟩, .int .i64 0, .string ⟨#[]⟩] 47)) ((qAb (Below.refl w.heap.size w) _).block gr hgl))
  have HG := Aside0.mk (qA7 w (.cells #[.string ⟨#[]⟩, .int .i64 0, .string ⟨#[]⟩] 47))
  have HS0 := Aside0.mk (StepG.of_below (sb := gr) (r := none) (qAb (Below.refl w.heap.size w) (.cells #[.string ⟨#[]⟩, .int .i64 0, .string ⟨#[]⟩] 47)))
  clear hB h
  go_enter Tryz.func39, Tryz.ntmps39
  go_wp2_with fail
  generalize w.alloc (.cells #[.string ⟨#[]⟩, .int .i64 0, .string ⟨#[]⟩] 47) = W0 at *
  have hgy : w.heap.size ≤ w.heap.size := Nat.le_refl _
  have hyr : w.heap.size ≠ gr := by omega
  generalize hgg : w.heap.size = gy at HG hyr
  have hgy : w.heap.size ≤ gy := by omega
  have hry : (⟨gy, 0, none⟩ : Addr).block ≠ gr ∧ gr ≠ gy := ⟨hyr, Ne.symm hyr⟩
  have hry : gr ≠ gy := hry.2
  refine (qDq w0 gr l b W0 hT hgr HB.out H.out hl hby).mono ?_
  rintro e w1 ⟨rfl, hU1, hS1⟩
  have HM := Aside0.mk (show R = (if (entryM (l, b)).1.kind = 5 then (nodeX (toldM ((entryM (l, b)).1.data.size + 1) (entryM (entryM (l, b)).2).1 (entryM (l, b)).1.data).1, ((entryM (entryM (l, b)).2).2.1, (entryM (entryM (l, b)).2).2.2 || (toldM ((entryM (l, b)).1.data.size + 1) (entryM (entryM (l, b)).2).1 (entryM (l, b)).1.data).2)) else (nodeX (entryM (l, b)).1, (entryM (l, b)).2)) from by
    rw [← HR.out]
    rfl)
  clear HR
  obtain ⟨f1, f2, f3, f4⟩ := qB2 l b hby
  have hb4 := Aside0.mk f4
  clear f4
  generalize entryM (l, b) = A at *
  obtain ⟨x1, l1, b1⟩ := A
  dsimp only at *
  have HS1 := Aside0.mk (HS0.out.trans hS1 (.inl rfl))
  have HB1 := Aside0.mk (qB8 HB.out hS1 hgr (fun k hk => by cases hk))
  have HG1 := Aside0.mk ((hS1.block gy (blk_lt HG.out) hyr (by simp)).trans HG.out)
  have hgyw : gy < w1.heap.size := blk_lt HG1.out
  have HUa := Aside0.mk hU1
  have HSa := HS1
  have hs1 : w.heap.size ≤ w1.heap.size := HS1.out.size
  clear hU1 hS1 HS0 HB H HG HS1
  obtain ⟨b5, hb5⟩ : ∃ q, (x1.kind == 5) = q := ⟨_, rfl⟩
  have hb5d : decide (x1.kind = 5) = b5 := by rw [← hb5]; rfl
  have hgxw : w.heap.size ≤ w1.heap.size := hs1
  have hyx : gy ≠ w1.heap.size := by omega
  have hrx : gr ≠ w1.heap.size := by have := HUa.out.lt; omega
  cases b5 with
  | false =>
    have HRx := Aside0.mk (show R = (nodeX x1, (l1, b1)) from by rw [HM.out, if_neg (fun e => by rw [e] at hb5; cases hb5)])
    clear HM
    have hcs : x1.data.size + x1.link.size ≤ 2000000 := by omega
    clear f1 f2
    obtain ⟨bd, hbd⟩ : ∃ q, (x1.name.toList == dotS.toList) = q := ⟨_, rfl⟩
    have hbd1 : (x1.name.toList == [46]) = bd := by rw [← hbd, show dotS.toList = [46] from by rw [ByteArray.toList_eq]; rfl]
    have HN := Aside0.mk (show nodeX x1 = ⟨if bd = true then ⟨#[]⟩ else x1.name, x1.kind, x1.data ++ x1.link⟩ from by
      unfold nodeX
      congr 1
      by_cases e : x1.name = dotS
      · rw [if_pos e, if_pos]
        rw [← hbd, e]
        simp
      · rw [if_neg e, if_neg]
        rw [← hbd]
        intro h
        apply e
        have := beq_iff_eq.1 h
        rw [ByteArray.toList_eq, ByteArray.toList_eq] at this
        exact qAv this)
    clear hbd
    obtain ⟨cn, ck, cl, cd⟩ := x1
    dsimp only at *
    cases bd with
    | true =>
      have HBx := Aside0.mk (qAb (Below.refl w1.heap.size w1) (.cells #[.string ⟨#[]⟩, .string cl, .string cd, .int .i64 ck] 82))
      have HX1 := Aside0.mk (qA7 w1 (.cells #[.string ⟨#[]⟩, .string cl, .string cd, .int .i64 ck] 82))
      generalize hgx : w1.heap.size = gx at HX1
      have d0 := (show ((w1.alloc (.cells #[.string ⟨#[]⟩, .string cl, .string cd, .int .i64 ck] 82))).cell? ⟨gx, 0, none⟩ = some (.string ⟨#[]⟩) from (qAd HX1.out 0).trans rfl)
      have d1 := (show ((w1.alloc (.cells #[.string ⟨#[]⟩, .string cl, .string cd, .int .i64 ck] 82))).cell? ⟨gx, 1, none⟩ = some (.string cl) from (qAd HX1.out 1).trans rfl)
      have d2 := (show ((w1.alloc (.cells #[.string ⟨#[]⟩, .string cl, .string cd, .int .i64 ck] 82))).cell? ⟨gx, 2, none⟩ = some (.string cd) from (qAd HX1.out 2).trans rfl)
      have d3 := (show ((w1.alloc (.cells #[.string ⟨#[]⟩, .string cl, .string cd, .int .i64 ck] 82))).cell? ⟨gx, 3, none⟩ = some (.int .i64 ck) from (qAd HX1.out 3).trans rfl)
      subst hgx
      have g0 := Aside0.mk (qAp HG1.out 0 (.string ⟨#[]⟩))
      have g1 := Aside0.mk (qAp g0.out 1 (.int .i64 ck))
      have g2 := Aside0.mk (qAp g1.out 2 (.string (cd ++ cl)))
      have yg0 := (show ((w1).alloc (.cells #[.string ⟨#[]⟩, .string cl, .string cd, .int .i64 ck] 82)).cell? ⟨gy, 0, none⟩ = some (.string ⟨#[]⟩) from (qAd (qAn HG1.out _) 0).trans rfl)
      have fg0 := (show ∀ k, ((w1).alloc (.cells #[.string ⟨#[]⟩, .string cl, .string cd, .int .i64 ck] 82)).frozen? ⟨gy, k, none⟩ = false from fun k => qAf (qAn HG1.out _) k)
      have yg1 := (show (((w1).setCell ⟨gy, 0, none⟩ (.string ⟨#[]⟩)).alloc (.cells #[.string ⟨#[]⟩, .string cl, .string cd, .int .i64 ck] 82)).cell? ⟨gy, 1, none⟩ = some (.int .i64 0) from (qAd (qAn g0.out _) 1).trans rfl)
      have fg1 := (show ∀ k, (((w1).setCell ⟨gy, 0, none⟩ (.string ⟨#[]⟩)).alloc (.cells #[.string ⟨#[]⟩, .string cl, .string cd, .int .i64 ck] 82)).frozen? ⟨gy, k, none⟩ = false from fun k => qAf (qAn g0.out _) k)
      have yg2 := (show ((((w1).setCell ⟨gy, 0, none⟩ (.string ⟨#[]⟩)).setCell ⟨gy, 1, none⟩ (.int .i64 ck)).alloc (.cells #[.string ⟨#[]⟩, .string cl, .string cd, .int .i64 ck] 82)).cell? ⟨gy, 2, none⟩ = some (.string ⟨#[]⟩) from (qAd (qAn g1.out _) 2).trans rfl)
      have fg2 := (show ∀ k, ((((w1).setCell ⟨gy, 0, none⟩ (.string ⟨#[]⟩)).setCell ⟨gy, 1, none⟩ (.int .i64 ck)).alloc (.cells #[.string ⟨#[]⟩, .string cl, .string cd, .int .i64 ck] 82)).frozen? ⟨gy, k, none⟩ = false from fun k => qAf (qAn g1.out _) k)
      have g3 := Aside0.mk (qAn g2.out (.cells #[.string ⟨#[]⟩, .string cl, .string cd, .int .i64 ck] 82))
      have HF := Aside0.mk (show ∀ (e : Ending) (w' : World), e = .returned (.agg #[.string ⟨#[]⟩, .int .i64 ck, .string (cd ++ cl)]) → w' = ((((w1).setCell ⟨gy, 0, none⟩ (.string ⟨#[]⟩)).setCell ⟨gy, 1, none⟩ (.int .i64 ck)).setCell ⟨gy, 2, none⟩ (.string (cd ++ cl))).alloc (.cells #[.string ⟨#[]⟩, .string cl, .string cd, .int .i64 ck] 82) → e = .returned (.agg #[.string R.1.f0, .int .i64 R.1.f1, .string R.1.f2]) ∧ UAt w0 w' gr R.2 ∧ StepG w w' gr none from fun e w' h1 h2 => by
        rw [h1, h2, HRx.out]
        dsimp only
        rw [HN.out]
        have hal := qAb (Below.refl ((((w1).setCell ⟨gy, 0, none⟩ (.string ⟨#[]⟩)).setCell ⟨gy, 1, none⟩ (.int .i64 ck)).setCell ⟨gy, 2, none⟩ (.string (cd ++ cl))).heap.size ((((w1).setCell ⟨gy, 0, none⟩ (.string ⟨#[]⟩)).setCell ⟨gy, 1, none⟩ (.int .i64 ck)).setCell ⟨gy, 2, none⟩ (.string (cd ++ cl)))) (.cells #[.string ⟨#[]⟩, .string cl, .string cd, .int .i64 ck] 82)
        refine ⟨rfl, HUa.out.keep ?_, (((HSa.out.setNew gy hgy _ _).setNew gy hgy _ _).setNew gy hgy _ _).trans (StepG.of_below hal) (.inl rfl)⟩
        rw [hal.block gr (by rw [sizeG, sizeG, sizeG]; exact HUa.out.lt), Below.heap_setCell _ _ _ _ hry, Below.heap_setCell _ _ _ _ hry, Below.heap_setCell _ _ _ _ hry])
      clear HN HRx g0 g1 HG1 HUa HSa HB1 HBx HX1
      go_wp2_with fail
      (try simp only [Exit.inBlock, Exit.then])
      refine bodyPost_ret (qA1 rfl (.cell gy 47 _ (0, 0) _ rfl g3.out Tryz.underlying47 rfl (by kernel_rfl) .nil)) rfl ?_
      exact HF.out _ _ rfl rfl
    | false =>
      have HBx := Aside0.mk (qAb (Below.refl w1.heap.size w1) (.cells #[.string cn, .string cl, .string cd, .int .i64 ck] 82))
      have HX1 := Aside0.mk (qA7 w1 (.cells #[.string cn, .string cl, .string cd, .int .i64 ck] 82))
      generalize hgx : w1.heap.size = gx at HX1
      have d0 := (show ((w1.alloc (.cells #[.string cn, .string cl, .string cd, .int .i64 ck] 82))).cell? ⟨gx, 0, none⟩ = some (.string cn) from (qAd HX1.out 0).trans rfl)
      have d1 := (show ((w1.alloc (.cells #[.string cn, .string cl, .string cd, .int .i64 ck] 82))).cell? ⟨gx, 1, none⟩ = some (.string cl) from (qAd HX1.out 1).trans rfl)
      have d2 := (show ((w1.alloc (.cells #[.string cn, .string cl, .string cd, .int .i64 ck] 82))).cell? ⟨gx, 2, none⟩ = some (.string cd) from (qAd HX1.out 2).trans rfl)
      have d3 := (show ((w1.alloc (.cells #[.string cn, .string cl, .string cd, .int .i64 ck] 82))).cell? ⟨gx, 3, none⟩ = some (.int .i64 ck) from (qAd HX1.out 3).trans rfl)
      subst hgx
      have g0 := Aside0.mk (qAp HG1.out 0 (.string cn))
      have g1 := Aside0.mk (qAp g0.out 1 (.int .i64 ck))
      have g2 := Aside0.mk (qAp g1.out 2 (.string (cd ++ cl)))
      have yg0 := (show ((w1).alloc (.cells #[.string cn, .string cl, .string cd, .int .i64 ck] 82)).cell? ⟨gy, 0, none⟩ = some (.string ⟨#[]⟩) from (qAd (qAn HG1.out _) 0).trans rfl)
      have fg0 := (show ∀ k, ((w1).alloc (.cells #[.string cn, .string cl, .string cd, .int .i64 ck] 82)).frozen? ⟨gy, k, none⟩ = false from fun k => qAf (qAn HG1.out _) k)
      have yg1 := (show (((w1).setCell ⟨gy, 0, none⟩ (.string cn)).alloc (.cells #[.string cn, .string cl, .string cd, .int .i64 ck] 82)).cell? ⟨gy, 1, none⟩ = some (.int .i64 0) from (qAd (qAn g0.out _) 1).trans rfl)
      have fg1 := (show ∀ k, (((w1).setCell ⟨gy, 0, none⟩ (.string cn)).alloc (.cells #[.string cn, .string cl, .string cd, .int .i64 ck] 82)).frozen? ⟨gy, k, none⟩ = false from fun k => qAf (qAn g0.out _) k)
      have yg2 := (show ((((w1).setCell ⟨gy, 0, none⟩ (.string cn)).setCell ⟨gy, 1, none⟩ (.int .i64 ck)).alloc (.cells #[.string cn, .string cl, .string cd, .int .i64 ck] 82)).cell? ⟨gy, 2, none⟩ = some (.string ⟨#[]⟩) from (qAd (qAn g1.out _) 2).trans rfl)
      have fg2 := (show ∀ k, ((((w1).setCell ⟨gy, 0, none⟩ (.string cn)).setCell ⟨gy, 1, none⟩ (.int .i64 ck)).alloc (.cells #[.string cn, .string cl, .string cd, .int .i64 ck] 82)).frozen? ⟨gy, k, none⟩ = false from fun k => qAf (qAn g1.out _) k)
      have g3 := Aside0.mk (qAn g2.out (.cells #[.string cn, .string cl, .string cd, .int .i64 ck] 82))
      have HF := Aside0.mk (show ∀ (e : Ending) (w' : World), e = .returned (.agg #[.string cn, .int .i64 ck, .string (cd ++ cl)]) → w' = ((((w1).setCell ⟨gy, 0, none⟩ (.string cn)).setCell ⟨gy, 1, none⟩ (.int .i64 ck)).setCell ⟨gy, 2, none⟩ (.string (cd ++ cl))).alloc (.cells #[.string cn, .string cl, .string cd, .int .i64 ck] 82) → e = .returned (.agg #[.string R.1.f0, .int .i64 R.1.f1, .string R.1.f2]) ∧ UAt w0 w' gr R.2 ∧ StepG w w' gr none from fun e w' h1 h2 => by
        rw [h1, h2, HRx.out]
        dsimp only
        rw [HN.out]
        have hal := qAb (Below.refl ((((w1).setCell ⟨gy, 0, none⟩ (.string cn)).setCell ⟨gy, 1, none⟩ (.int .i64 ck)).setCell ⟨gy, 2, none⟩ (.string (cd ++ cl))).heap.size ((((w1).setCell ⟨gy, 0, none⟩ (.string cn)).setCell ⟨gy, 1, none⟩ (.int .i64 ck)).setCell ⟨gy, 2, none⟩ (.string (cd ++ cl)))) (.cells #[.string cn, .string cl, .string cd, .int .i64 ck] 82)
        refine ⟨rfl, HUa.out.keep ?_, (((HSa.out.setNew gy hgy _ _).setNew gy hgy _ _).setNew gy hgy _ _).trans (StepG.of_below hal) (.inl rfl)⟩
        rw [hal.block gr (by rw [sizeG, sizeG, sizeG]; exact HUa.out.lt), Below.heap_setCell _ _ _ _ hry, Below.heap_setCell _ _ _ _ hry, Below.heap_setCell _ _ _ _ hry])
      clear HN HRx g0 g1 HG1 HUa HSa HB1 HBx HX1
      go_wp2_with fail
      (try simp only [Exit.inBlock, Exit.then])
      refine bodyPost_ret (qA1 rfl (.cell gy 47 _ (0, 0) _ rfl g3.out Tryz.underlying47 rfl (by kernel_rfl) .nil)) rfl ?_
      exact HF.out _ _ rfl rfl
  | true =>
    have hk5 : x1.kind = 5 := of_decide_eq_true hb5d
    rw [if_pos hk5] at HM
    clear hk5 hb5d
    have HBx := Aside0.mk (qAb (Below.refl w1.heap.size w1) (.cells #[.string x1.name, .string x1.link, .string x1.data, .int .i64 x1.kind] 82))
    have HX2 := Aside0.mk (qA7 w1 (.cells #[.string x1.name, .string x1.link, .string x1.data, .int .i64 x1.kind] 82))
    have HG2 := Aside0.mk (qAg HG1.out HBx.out)
    have HU2 := Aside0.mk (HUa.out.keep (HBx.out.block gr HUa.out.lt))
    have HS2 := Aside0.mk (HSa.out.trans (StepG.of_below HBx.out) (.inl rfl))
    have HB2 := Aside0.mk (qAe HB1.out HBx.out)
    clear HBx HG1 HUa HSa HB1
    go_wp2_with fail
    clear hb5
    generalize w1.alloc (.cells #[.string x1.name, .string x1.link, .string x1.data, .int .i64 x1.kind] 82) = w2 at *
    generalize hgx : w1.heap.size = gx at *
    refine (qDq w0 gr l1 b1 w2 hT hgr HB2.out HU2.out (by omega) hb4.out).mono ?_
    rintro e w3 ⟨rfl, hU3, hS3⟩
    obtain ⟨k1, k2, k3, k4⟩ := qB2 l1 b1 hb4.out
    clear k4
    generalize entryM (l1, b1) = B at *
    obtain ⟨x2, l2, b2⟩ := B
    dsimp only at *
    have HX3 := Aside0.mk ((hS3.block gx (blk_lt HX2.out) (Ne.symm hrx) (by simp)).trans HX2.out)
    have HG3 := Aside0.mk ((hS3.block gy (blk_lt HG2.out) hyr (by simp)).trans HG2.out)
    have HU3 := Aside0.mk hU3
    have HB3 := Aside0.mk (qB8 HB2.out hS3 hgr (fun k hk => by cases hk))
    have HS3 := Aside0.mk (HS2.out.trans hS3 (.inl rfl))
    clear hU3 hS3 HX2 HG2 HU2 HS2 HB2
    have HTF := Aside0.mk (qEt (x1.data.size + 1) x2 x1.data 1000000 (by omega) (by omega))
    go_wp2_with fail
    refine (qHb w0 gr l2 b2 x2 x1.data w3 hT hE hgr HB3.out HU3.out (by omega)).mono ?_
    rintro e w4 ⟨rfl, hU4, hS4⟩
    generalize toldM (x1.data.size + 1) x2 x1.data = C at *
    obtain ⟨x3, b3⟩ := C
    dsimp only at *
    have HX4 := Aside0.mk ((hS4.block gx (blk_lt HX3.out) (Ne.symm hrx) (by simp)).trans HX3.out)
    have HY4 := Aside0.mk ((hS4.block gy (blk_lt HG3.out) hyr (by simp)).trans HG3.out)
    have HU4 := Aside0.mk hU4
    have HS4 := Aside0.mk (HS3.out.trans hS4 (.inl rfl))
    clear hU4 hS4 HX3 HG3 HU3 HS3 HB3
    have HRx := Aside0.mk (show R = (nodeX x3, (l2, b2 || b3)) from HM.out)
    clear HM
    have hcs : x3.data.size + x3.link.size ≤ 2000000 := by
      obtain ⟨t1, t2, _⟩ := HTF.out
      rw [t1]
      omega
    clear HTF f1 f2 k1 k2 k3
    unfold entV
    have HXn := Aside0.mk (show (((((w4.setCell ⟨gx, 0, none⟩ (.string x3.name)).setCell ⟨gx, 1, none⟩ (.string x3.link)).setCell ⟨gx, 2, none⟩ (.string x3.data)).setCell ⟨gx, 3, none⟩ (.int .i64 x3.kind))).heap[gx]? = some (.cells (entV x3) 82 (0, 0)) from qAp (qAp (qAp (qAp HX4.out 0 (.string x3.name)) 1 (.string x3.link)) 2 (.string x3.data)) 3 (.int .i64 x3.kind))
    have s0 := Aside0.mk (qAp HX4.out 0 (.string x3.name))
    have s1 := Aside0.mk (qAp s0.out 1 (.string x3.link))
    have s2 := Aside0.mk (qAp s1.out 2 (.string x3.data))
    have s3 := Aside0.mk (qAp s2.out 3 (.int .i64 x3.kind))
    have ys0 := (show (w4).cell? ⟨gx, 0, none⟩ = some (.string x1.name) from (qAd HX4.out 0).trans rfl)
    have ys1 := (show ((w4).setCell ⟨gx, 0, none⟩ (.string x3.name)).cell? ⟨gx, 1, none⟩ = some (.string x1.link) from (qAd s0.out 1).trans rfl)
    have ys2 := (show (((w4).setCell ⟨gx, 0, none⟩ (.string x3.name)).setCell ⟨gx, 1, none⟩ (.string x3.link)).cell? ⟨gx, 2, none⟩ = some (.string x1.data) from (qAd s1.out 2).trans rfl)
    have ys3 := (show ((((w4).setCell ⟨gx, 0, none⟩ (.string x3.name)).setCell ⟨gx, 1, none⟩ (.string x3.link)).setCell ⟨gx, 2, none⟩ (.string x3.data)).cell? ⟨gx, 3, none⟩ = some (.int .i64 x1.kind) from (qAd s2.out 3).trans rfl)
    have fs0 := fun k => qAf HX4.out k
    have fs1 := fun k => qAf s0.out k
    have fs2 := fun k => qAf s1.out k
    have fs3 := fun k => qAf s2.out k
    clear s0 s1 s2 s3
    obtain ⟨wt, hwt⟩ : ∃ wt, ((((w4.setCell ⟨gx, 0, none⟩ (.string x3.name)).setCell ⟨gx, 1, none⟩ (.string x3.link)).setCell ⟨gx, 2, none⟩ (.string x3.data)).setCell ⟨gx, 3, none⟩ (.int .i64 x3.kind)) = wt := ⟨_, rfl⟩
    have HY := Aside0.mk (show wt.heap[gy]? = some (.cells #[.string ⟨#[]⟩, .int .i64 0, .string ⟨#[]⟩] 47 (0, 0)) from by
      rw [← hwt, Below.heap_setCell _ _ _ _ hyx, Below.heap_setCell _ _ _ _ hyx, Below.heap_setCell _ _ _ _ hyx, Below.heap_setCell _ _ _ _ hyx]
      exact HY4.out)
    have HU := Aside0.mk (show UAt w0 wt gr (l2, b2 || b3) from by
      refine HU4.out.keep ?_
      rw [← hwt, Below.heap_setCell _ _ _ _ hrx, Below.heap_setCell _ _ _ _ hrx, Below.heap_setCell _ _ _ _ hrx, Below.heap_setCell _ _ _ _ hrx])
    have HS := Aside0.mk (show StepG w wt gr none from by
      rw [← hwt]
      exact (((HS4.out.setNew gx hgxw _ _).setNew gx hgxw _ _).setNew gx hgxw _ _).setNew gx hgxw _ _)
    have HX : Aside0 (wt.heap[gx]? = some (.cells (entV x3) 82 (0, 0))) := by rw [← hwt]; exact HXn
    clear HXn HX4 HY4 HU4 HS4 
    obtain ⟨bd, hbd⟩ : ∃ q, (x3.name.toList == dotS.toList) = q := ⟨_, rfl⟩
    have hbd1 : (x3.name.toList == [46]) = bd := by rw [← hbd, show dotS.toList = [46] from by rw [ByteArray.toList_eq]; rfl]
    have HN := Aside0.mk (show nodeX x3 = ⟨if bd = true then ⟨#[]⟩ else x3.name, x3.kind, x3.data ++ x3.link⟩ from by
      unfold nodeX
      congr 1
      by_cases e : x3.name = dotS
      · rw [if_pos e, if_pos]
        rw [← hbd, e]
        simp
      · rw [if_neg e, if_neg]
        rw [← hbd]
        intro h
        apply e
        have := beq_iff_eq.1 h
        rw [ByteArray.toList_eq, ByteArray.toList_eq] at this
        exact qAv this)
    clear hbd
    obtain ⟨cn, ck, cl, cd⟩ := x3
    unfold entV at HX
    dsimp only at *
    have c0 := (show (wt).cell? ⟨gx, 0, none⟩ = some (.string cn) from (qAd HX.out 0).trans rfl)
    have c1 := (show (wt).cell? ⟨gx, 1, none⟩ = some (.string cl) from (qAd HX.out 1).trans rfl)
    have c2 := (show (wt).cell? ⟨gx, 2, none⟩ = some (.string cd) from (qAd HX.out 2).trans rfl)
    have c3 := (show (wt).cell? ⟨gx, 3, none⟩ = some (.int .i64 ck) from (qAd HX.out 3).trans rfl)
    have hfx := fun k => qAf HX.out k
    cases bd with
    | true =>
      have HX1 := Aside0.mk (qAp HX.out 0 (.string ⟨#[]⟩))
      have HY1 := Aside0.mk ((Below.heap_setCell wt ⟨gx, 0, none⟩ (.string ⟨#[]⟩) gy hyx).trans HY.out)
      have HU1 := Aside0.mk (HU.out.keep (Below.heap_setCell wt ⟨gx, 0, none⟩ (.string ⟨#[]⟩) gr hrx))
      have HS1 := Aside0.mk (HS.out.setNew gx hgxw 0 (.string ⟨#[]⟩))
      have d0 := (show ((wt.setCell ⟨gx, 0, none⟩ (.string ⟨#[]⟩))).cell? ⟨gx, 0, none⟩ = some (.string ⟨#[]⟩) from (qAd HX1.out 0).trans rfl)
      have d1 := (show ((wt.setCell ⟨gx, 0, none⟩ (.string ⟨#[]⟩))).cell? ⟨gx, 1, none⟩ = some (.string cl) from (qAd HX1.out 1).trans rfl)
      have d2 := (show ((wt.setCell ⟨gx, 0, none⟩ (.string ⟨#[]⟩))).cell? ⟨gx, 2, none⟩ = some (.string cd) from (qAd HX1.out 2).trans rfl)
      have d3 := (show ((wt.setCell ⟨gx, 0, none⟩ (.string ⟨#[]⟩))).cell? ⟨gx, 3, none⟩ = some (.int .i64 ck) from (qAd HX1.out 3).trans rfl)
      have g0 := Aside0.mk (qAp HY1.out 0 (.string ⟨#[]⟩))
      have g1 := Aside0.mk (qAp g0.out 1 (.int .i64 ck))
      have g2 := Aside0.mk (qAp g1.out 2 (.string (cd ++ cl)))
      have yg0 := (show ((wt.setCell ⟨gx, 0, none⟩ (.string ⟨#[]⟩))).cell? ⟨gy, 0, none⟩ = some (.string ⟨#[]⟩) from (qAd HY1.out 0).trans rfl)
      have yg1 := (show (((wt.setCell ⟨gx, 0, none⟩ (.string ⟨#[]⟩))).setCell ⟨gy, 0, none⟩ (.string ⟨#[]⟩)).cell? ⟨gy, 1, none⟩ = some (.int .i64 0) from (qAd g0.out 1).trans rfl)
      have yg2 := (show ((((wt.setCell ⟨gx, 0, none⟩ (.string ⟨#[]⟩))).setCell ⟨gy, 0, none⟩ (.string ⟨#[]⟩)).setCell ⟨gy, 1, none⟩ (.int .i64 ck)).cell? ⟨gy, 2, none⟩ = some (.string ⟨#[]⟩) from (qAd g1.out 2).trans rfl)
      have fg0 := fun k => qAf HY1.out k
      have fg1 := fun k => qAf g0.out k
      have fg2 := fun k => qAf g1.out k
      have HF := Aside0.mk (show ∀ (e : Ending) (w' : World), e = .returned (.agg #[.string ⟨#[]⟩, .int .i64 ck, .string (cd ++ cl)]) → w' = ((((wt.setCell ⟨gx, 0, none⟩ (.string ⟨#[]⟩))).setCell ⟨gy, 0, none⟩ (.string ⟨#[]⟩)).setCell ⟨gy, 1, none⟩ (.int .i64 ck)).setCell ⟨gy, 2, none⟩ (.string (cd ++ cl)) → e = .returned (.agg #[.string R.1.f0, .int .i64 R.1.f1, .string R.1.f2]) ∧ UAt w0 w' gr R.2 ∧ StepG w w' gr none from fun e w' h1 h2 => by
        rw [h1, h2, HRx.out]
        dsimp only
        rw [HN.out]
        refine ⟨rfl, UAt.keep (w := (wt.setCell ⟨gx, 0, none⟩ (.string ⟨#[]⟩))) HU1.out ?_, ((HS1.out.setNew gy hgy _ _).setNew gy hgy _ _).setNew gy hgy _ _⟩
        rw [Below.heap_setCell _ _ _ _ hry, Below.heap_setCell _ _ _ _ hry, Below.heap_setCell _ _ _ _ hry])
      clear HN HRx g0 g1 HS1 HU1 HY1 HX HY HU HS
      go_wp2_with fail
      (try simp only [Exit.inBlock, Exit.then])
      refine bodyPost_ret (qA1 rfl (.cell gy 47 _ (0, 0) _ rfl g2.out Tryz.underlying47 rfl (by kernel_rfl) .nil)) rfl ?_
      exact HF.out _ _ rfl rfl
    | false =>
      have HY1 := HY
      have HU1 := HU
      have HS1 := HS
      have g0 := Aside0.mk (qAp HY1.out 0 (.string cn))
      have g1 := Aside0.mk (qAp g0.out 1 (.int .i64 ck))
      have g2 := Aside0.mk (qAp g1.out 2 (.string (cd ++ cl)))
      have yg0 := (show (wt).cell? ⟨gy, 0, none⟩ = some (.string ⟨#[]⟩) from (qAd HY1.out 0).trans rfl)
      have yg1 := (show ((wt).setCell ⟨gy, 0, none⟩ (.string cn)).cell? ⟨gy, 1, none⟩ = some (.int .i64 0) from (qAd g0.out 1).trans rfl)
      have yg2 := (show (((wt).setCell ⟨gy, 0, none⟩ (.string cn)).setCell ⟨gy, 1, none⟩ (.int .i64 ck)).cell? ⟨gy, 2, none⟩ = some (.string ⟨#[]⟩) from (qAd g1.out 2).trans rfl)
      have fg0 := fun k => qAf HY1.out k
      have fg1 := fun k => qAf g0.out k
      have fg2 := fun k => qAf g1.out k
      have HF := Aside0.mk (show ∀ (e : Ending) (w' : World), e = .returned (.agg #[.string cn, .int .i64 ck, .string (cd ++ cl)]) → w' = (((wt).setCell ⟨gy, 0, none⟩ (.string cn)).setCell ⟨gy, 1, none⟩ (.int .i64 ck)).setCell ⟨gy, 2, none⟩ (.string (cd ++ cl)) → e = .returned (.agg #[.string R.1.f0, .int .i64 R.1.f1, .string R.1.f2]) ∧ UAt w0 w' gr R.2 ∧ StepG w w' gr none from fun e w' h1 h2 => by
        rw [h1, h2, HRx.out]
        dsimp only
        rw [HN.out]
        refine ⟨rfl, UAt.keep (w := wt) HU1.out ?_, ((HS1.out.setNew gy hgy _ _).setNew gy hgy _ _).setNew gy hgy _ _⟩
        rw [Below.heap_setCell _ _ _ _ hry, Below.heap_setCell _ _ _ _ hry, Below.heap_setCell _ _ _ _ hry])
      clear HN HRx g0 g1 HS1 HU1 HY1 HX HY HU HS
      go_wp2_with fail
      (try simp only [Exit.inBlock, Exit.then])
      refine bodyPost_ret (qA1 rfl (.cell gy 47 _ (0, 0) _ rfl g2.out Tryz.underlying47 rfl (by kernel_rfl) .nil)) rfl ?_
      exact HF.out _ _ rfl rfl
end Go.Proofs.YtdijnmcfpbceaaaGreatDoor.X

namespace Go.Proofs.YtdijnmcfpbceaaaGreatDoor.X
open Go.RowKit Go.Proofs.YtdijnmcfpbceaaaGreatDoorW.PrintWords Go.Proofs.YtdijnmcfpbceaaaGreatDoorW.PrintLast Go.Proofs.YtdijnmcfpbceaaaGreatDoorW.PrintMore Go.Proofs.YtdijnmcfpbceaaaGreatDoor.P
set_option linter.unusedVariables false
set_option linter.unusedSimpArgs false
theorem rowAt {w : World} {A : Option Addr} {l : List Int} (h : (Kd.int .u8).C w A l.length l) (hp : 0 < l.length) : ∃ ad, A = some ad ∧ ∀ j, j < l.length → w.cell? (ad.add j) = some (.int .u8 (l.getD j 0)) := by
  obtain ⟨ad, e, hc⟩ := (Kd.reads_of_C (d := (0 : Int)) h).2.2 hp
  exact ⟨ad, e, hc⟩
def TrimR (l : List Int) (n : Nat) : Prop := n ≤ l.length ∧ (∀ j, n ≤ j → j < l.length → l.getD j 0 = 0) ∧ (n = 0 ∨ l.getD (n - 1) 0 ≠ 0)
def rowLen : Value → Nat
  | .slice _ n _ => n
  | _ => 0
set_option maxHeartbeats 4000000 in
set_option maxRecDepth 100000 in
theorem qEb (A : Option Addr) (c : Nat) (l : List Int) (w : World) (hC : (Kd.int .u8).C w A l.length l) (hc : l.length ≤ c) (hl : l.length ≤ 1000000) :
    Calls Tryz.prog 67 #[.slice A l.length c, .int .u8 0] w fun e w' => ∃ n, e = .returned (.slice A n c) ∧ TrimR l n ∧ w' = w := by
  have X := Aside0.mk hC
  clear hC
  go_enter Tryz.func67, Tryz.ntmps67
  go_wp2_with fail
  go_loopw [0] (fun v0 wr => ∃ n : Nat, v0 = .slice A n c ∧ n ≤ l.length ∧ Aside0 (∀ j, n ≤ j → j < l.length → l.getD j 0 = 0) ∧ Aside0 (wr = w)) (fun v _ => rowLen v)
  case atStart => exact ⟨l.length, rfl, Nat.le_refl _, ⟨fun j h1 h2 => by omega⟩, ⟨rfl⟩⟩
  case round =>
    obtain ⟨n, rfl, hn, HZ, HW⟩ := hrel
    obtain rfl := HW.out
    by_cases h0 : n = 0
    · subst h0
      have HF := Aside0.mk (show TrimR l 0 from ⟨Nat.zero_le _, HZ.out, .inl rfl⟩)
      clear HZ
      go_wp2_with fail
      go_ret
      exact ⟨0, rfl, HF.out, rfl⟩
    · obtain ⟨m, rfl⟩ : ∃ m, n = m + 1 := ⟨n - 1, by omega⟩
      obtain ⟨ad, rfl, hcell⟩ := rowAt X.out (by omega)
      have hcm := hcell m (by omega)
      have HCell := Aside0.mk hcell
      clear hcell
      have hpos : decide ((0 : Int) < ((m + 1 : Nat) : Int)) = true := decide_eq_true (by omega)
      have hm1 : ((m + 1 : Nat) : Int) - 1 = (m : Int) := by omega
      have hmi : 0 ≤ (m : Int) := by omega
      have hml : decide (m < m + 1) = true := decide_eq_true (by omega)
      obtain ⟨bz, hbz⟩ : ∃ q, (l.getD m 0 == 0) = q := ⟨_, rfl⟩
      have hbzd : decide (l.getD m 0 = 0) = bz := by rw [← hbz]; rfl
      have HXm := Aside0.mk (rfl : l.getD m 0 = l.getD m 0)
      generalize hx : l.getD m 0 = x at *
      have HXm := Aside0.mk hx
      clear hx
      cases bz with
      | true =>
        have HZ2 := Aside0.mk (show ∀ j, m ≤ j → j < l.length → l.getD j 0 = 0 from fun j h1 h2 => by
          by_cases e : j = m
          · rw [e, HXm.out]
            exact of_decide_eq_true hbzd
          · exact HZ.out j (by omega) h2)
        clear HZ
        go_wp2_with fail
        exact ⟨⟨m, rfl, by omega, HZ2, ⟨by trivial⟩⟩, by simp only [rowLen]; omega⟩
      | false =>
        have HF := Aside0.mk (show TrimR l (m + 1) from ⟨hn, HZ.out, .inr (by rw [Nat.add_sub_cancel, HXm.out]; exact of_decide_eq_false hbzd)⟩)
        clear HZ
        go_wp2_with fail
        go_ret
        exact ⟨m + 1, rfl, HF.out, rfl⟩
def TrimLP (l : List Int) (w : World) (e : Ending) (w' : World) : Prop := ∃ A1 n c1, e = .returned (.slice A1 n c1) ∧ (n = 0 ↔ ∀ x ∈ l, x = 0) ∧ w' = w
set_option maxHeartbeats 4000000 in
set_option maxRecDepth 100000 in
theorem qEs (A : Option Addr) (c : Nat) (l : List Int) (w : World) (hC : (Kd.int .u8).C w A l.length l) (hc : l.length ≤ c) (hl : l.length ≤ 1000000) :
    Calls Tryz.prog 66 #[.slice A l.length c, .int .u8 0] w fun e w' => TrimLP l w e w' := by
  have X := Aside0.mk hC
  clear hC
  go_enter Tryz.func66, Tryz.ntmps66
  go_wp2_with fail
  go_loopw [0] (fun v0 wr => ∃ (i : Nat) (Ai : Option Addr) (ci : Nat), v0 = .slice Ai (l.drop i).length ci ∧ i ≤ l.length ∧ (l.drop i).length ≤ ci ∧ Aside0 ((Kd.int .u8).C w Ai (l.drop i).length (l.drop i)) ∧ Aside0 (∀ x ∈ l.take i, x = 0) ∧ Aside0 (wr = w)) (fun v _ => rowLen v)
  case atStart => exact ⟨0, A, c, rfl, by omega, hc, X, ⟨fun x hx => by cases hx⟩, ⟨rfl⟩⟩
  case round =>
    obtain ⟨i, Ai, ci, rfl, hi, hci, XI, HZ, HW⟩ := hrel
    obtain rfl := HW.out
    have hld : (l.drop i).length = l.length - i := List.length_drop
    by_cases h0 : l.length ≤ i
    · have h00 : (l.drop i).length = 0 := by omega
      have HF := Aside0.mk (show ∀ x ∈ l, x = 0 from fun x hx => HZ.out x (by rw [List.take_of_length_le h0]; exact hx))
      rw [h00]
      clear HZ XI hld
      go_wp2_with fail
      go_ret
      exact ⟨_, _, _, rfl, ⟨fun _ => HF.out, fun _ => rfl⟩, rfl⟩
    · have hlt : i < l.length := by omega
      have hcons : l.drop i = l[i] :: l.drop (i + 1) := List.drop_eq_getElem_cons hlt
      obtain ⟨ad, rfl, hcell⟩ := rowAt XI.out (by omega)
      have hc0 := hcell 0 (by omega)
      have e0 : ad.add 0 = ad := by cases ad; simp [Addr.add]
      obtain ⟨hp, _⟩ := qH8 (by rw [e0] at hc0; exact hc0)
      generalize ad.block = bk at hp
      generalize ad.off = of at hp
      subst hp
      have hg0 : (l.drop i).getD 0 0 = l[i] := by rw [hcons]; rfl
      rw [e0, hg0] at hc0
      have HC0 := Aside0.mk hc0
      clear hcell hg0 e0
      obtain ⟨m, hm⟩ : ∃ m, (l.drop i).length = m + 1 := ⟨(l.drop i).length - 1, by omega⟩
      have hdl : (l.drop (i + 1)).length = m := by rw [List.length_drop]; omega
      have HCd := Aside0.mk (Kd.C_drop (m := 1) (c := ci) XI.out (by omega) hci)
      rw [List.drop_drop, List.length_drop] at HCd
      obtain ⟨bz, hbz⟩ : ∃ q, (l[i] == 0) = q := ⟨_, rfl⟩
      have hbzd : decide (l[i] = 0) = bz := by rw [← hbz]; rfl
      have HXi := Aside0.mk (rfl : l[i] = l[i])
      have HTk := Aside0.mk (List.take_succ_eq_append_getElem hlt)
      have HMem := Aside0.mk (List.getElem_mem hlt)
      generalize l[i] = x at *
      rw [hm]
      have hpos : decide ((0 : Int) < ((m + 1 : Nat) : Int)) = true := decide_eq_true (by omega)
      have hposn : decide (0 < m + 1) = true := decide_eq_true (by omega)
      clear hcons hld
      cases bz with
      | true =>
        have HZ2 := Aside0.mk (show ∀ y ∈ l.take (i + 1), y = 0 from fun y hy => by
          rw [HTk.out, List.mem_append, List.mem_singleton] at hy
          rcases hy with h | h
          · exact HZ.out y h
          · rw [h]
            exact of_decide_eq_true hbzd)
        clear HZ HTk HMem
        by_cases hc1 : ci = 1
        · rw [if_pos hc1] at HCd
          go_wp2_with fail
          refine ⟨⟨i + 1, some ⟨bk, of, none⟩, 0, by rw [hdl], by omega, by rw [hdl]; omega, ?_, HZ2, ⟨by trivial⟩⟩, by simp only [rowLen]; omega⟩
          have h1 := HCd.out
          rw [show i + 1 = i + 1 from rfl, show l.length - (i + 1) = (l.drop (i + 1)).length from by rw [List.length_drop]] at h1
          exact ⟨h1⟩
        · rw [if_neg hc1] at HCd
          go_wp2_with fail
          refine ⟨⟨i + 1, some ⟨bk, of + 1, none⟩, ci - 1, by rw [hdl], by omega, by rw [hdl]; omega, ?_, HZ2, ⟨by trivial⟩⟩, by simp only [rowLen]; omega⟩
          have h1 := HCd.out
          have e1 : (some (⟨bk, of, none⟩ : Addr)).map (fun x => x.add (1 * (Kd.int IntKind.u8).sz)) = some ⟨bk, of + 1, none⟩ := by
            show some ((⟨bk, of, none⟩ : Addr).add (1 * 1)) = _
            simp [Addr.add]
          rw [e1, show l.length - (i + 1) = (l.drop (i + 1)).length from by rw [List.length_drop]] at h1
          exact ⟨h1⟩
      | false =>
        have HF := Aside0.mk (show ((m + 1 : Nat) = 0 ↔ ∀ x ∈ l, x = 0) from ⟨fun h => by omega, fun h => absurd (h x HMem.out) (of_decide_eq_false hbzd)⟩)
        clear HZ HTk HMem
        go_wp2_with fail
        go_ret
        exact ⟨_, _, _, rfl, HF.out, rfl⟩
set_option maxHeartbeats 4000000 in
set_option maxRecDepth 100000 in
theorem qG8 (A : Option Addr) (c : Nat) (l : List Int) (w : World) (hC : (Kd.int .u8).C w A l.length l) (hc : l.length ≤ c) (hl : l.length ≤ 1000000) (hp : 0 < l.length) :
    Calls Tryz.prog 51 #[.slice A l.length c, .string ⟨#[0]⟩] w fun e w' => ∃ A1 n c1, e = .returned (.slice A1 n c1) ∧ (n = 0 ↔ ∀ x ∈ l, x = 0) ∧ Below w.heap.size w w' := by
  have X := Aside0.mk hC
  clear hC
  have hl0 : ((l.length : Int) == 0) = false := beq_eq_false_iff_ne.2 (by omega)
  have hl0n : (l.length == 0) = false := beq_eq_false_iff_ne.2 (by omega)
  go_enter Tryz.func51, Tryz.ntmps51
  have HTR := Aside0.mk (show ∀ w', Below w.heap.size w w' → Calls Tryz.prog 67 #[.slice A l.length c, .int .u8 0] w' fun e w'' => ∃ n, e = .returned (.slice A n c) ∧ TrimR l n ∧ w'' = w' from fun w' hb => qEb A c l w' (Kd.C_below X.out hb) hc hl)
  have HTL := Aside0.mk (show ∀ n w', TrimR l n → Below w.heap.size w w' → Calls Tryz.prog 66 #[.slice A n c, .int .u8 0] w' fun e w'' => TrimLP (l.take n) w' e w'' from fun n w' hn hb => by
    have hln : (l.take n).length = n := by rw [List.length_take]; have := hn.1; omega
    have h1 := qEs A c (l.take n) w' (Kd.C_take (Kd.C_below X.out hb) hn.1) (by have := hn.1; omega) (by have := hn.1; omega)
    rw [hln] at h1
    exact h1)
  go_wp2_with fail
  refine start_ (n := 8) (S := fun w' => Below w.heap.size w w') (ds := []) (bmG 8 0) (by kernel_rfl) rfl (by kernel_rfl) (qAc (Below.refl w.heap.size w)) (fun hS => ?_)
  generalize w.drew = wd at hS ⊢
  refine pure_ (i := 0) (N := some 21) (v := ?_) (a' := ?_) (bmG 8 1) rfl rfl (by kernel_rfl) (fun _ _ _ h => h) (Or.inl ⟨by rfl, ?_⟩) ?_ ?_
  rotate_left
  · intro w'
    go_simp
    with_reducible rfl
  rotate_left
  · simp only [Act.put, List.setIfInBounds_toArray, List.set_cons_zero, List.set_cons_succ, i64_w, i32_w]
    rfl
  refine pure_ (i := 1) (N := some 22) (v := ?_) (a' := ?_) (bmG 8 3) rfl rfl (by kernel_rfl) (fun _ _ _ h => h) (Or.inl ⟨by rfl, ?_⟩) ?_ ?_
  rotate_left
  · intro w'
    go_simp
    with_reducible rfl
  rotate_left
  · simp only [Act.put, List.setIfInBounds_toArray, List.set_cons_zero, List.set_cons_succ, i64_w, i32_w]
    rfl
  refine pure_ (i := 2) (N := some 23) (v := .int .u8 0) (a' := ?_) (bmG 8 7) rfl rfl (by kernel_rfl) (fun _ _ _ h => h) (Or.inl ⟨by rfl, ?_⟩) ?_ ?_
  · intro w'
    go_simp
    (try rfl)
  rotate_left
  · simp only [Act.put, List.setIfInBounds_toArray, List.set_cons_zero, List.set_cons_succ, i64_w, i32_w]
    rfl
  refine pure_ (i := 4) (N := some 25) (v := ?_) (a' := ?_) (bmG 8 23) rfl rfl (by kernel_rfl) (fun _ _ _ h => h) (Or.inl ⟨by rfl, ?_⟩) ?_ ?_
  rotate_left
  · intro w'
    go_simp
    with_reducible rfl
  rotate_left
  · simp only [Act.put, List.setIfInBounds_toArray, List.set_cons_zero, List.set_cons_succ, i64_w, i32_w]
    rfl
  refine pure_ (i := 5) (N := some 26) (v := .int .u8 0) (a' := ?_) (bmG 8 55) rfl rfl (by kernel_rfl) (fun _ _ _ h => h) (Or.inl ⟨by rfl, ?_⟩) ?_ ?_
  · intro w'
    go_simp
    (try rfl)
  rotate_left
  · simp only [Act.put, List.setIfInBounds_toArray, List.set_cons_zero, List.set_cons_succ, i64_w, i32_w]
    rfl
  refine one_ (i := 3) (N := some 24) (bmG 8 63) rfl rfl (by kernel_rfl) (by decide) (fun Kz hKz => ?_)
  refine goes_ Tryz.func67 (by kernel_rfl) rfl #[.slice A l.length c, .int .u8 0] (by rfl) rfl rfl (by (try simp only [List.map_toArray, List.map_cons, List.map_nil]); first | done | rfl) ?_
  refine (HTR.out _ hS).mono ?_
  rintro e wc ⟨n, rfl, hn, hw⟩
  refine ⟨_, rfl, ?_⟩
  refine hKz.out _ _ (hw ▸ hS) (fun hS => ?_)
  clear hKz Kz
  refine norm_ (a' := ?_) ?_ ?_
  rotate_left
  · show Act.put _ (some 24) _ = _
    simp only [Act.put, List.setIfInBounds_toArray, List.set_cons_zero, List.set_cons_succ, i64_w, i32_w]
    rfl
  refine one_ (i := 6) (N := some 27) (bmG 8 127) rfl rfl (by kernel_rfl) (by decide) (fun Kz hKz => ?_)
  refine goes_ Tryz.func66 (by kernel_rfl) rfl #[.slice A n c, .int .u8 0] (by rfl) rfl rfl (by (try simp only [List.map_toArray, List.map_cons, List.map_nil]); first | done | rfl) ?_
  refine (HTL.out n _ hn hS).mono ?_
  rintro e wc ⟨A1, n1, c1, rfl, hn1, hw1⟩
  refine ⟨_, rfl, ?_⟩
  refine hKz.out _ _ (hw1 ▸ hS) (fun hS => ?_)
  clear hKz Kz
  refine norm_ (a' := ?_) ?_ ?_
  rotate_left
  · show Act.put _ (some 27) _ = _
    simp only [Act.put, List.setIfInBounds_toArray, List.set_cons_zero, List.set_cons_succ, i64_w, i32_w]
    rfl
  refine pure_ (i := 7) (N := some 4) (v := ?_) (a' := ?_) (bmG 8 255) rfl rfl (by kernel_rfl) (fun _ _ _ h => h) (Or.inl ⟨by rfl, ?_⟩) ?_ ?_
  rotate_left
  · intro w'
    go_simp
    with_reducible rfl
  rotate_left
  · simp only [Act.put, List.setIfInBounds_toArray, List.set_cons_zero, List.set_cons_succ, i64_w, i32_w]
    rfl
  refine done_ (by kernel_rfl) ?_
  go_wp2_with fail
  go_ret
  refine ⟨A1, n1, c1, rfl, ?_, hS⟩
  rw [hn1]
  obtain ⟨r1, r2, r3⟩ := hn
  constructor
  · intro h x hx
    obtain ⟨j, hj, rfl⟩ := List.mem_iff_getElem.1 hx
    rcases Nat.lt_or_ge j n with h1 | h1
    · exact h _ (List.mem_iff_getElem.2 ⟨j, by rw [List.length_take]; omega, by rw [List.getElem_take]⟩)
    · have := r2 j h1 hj
      rw [List.getD_eq_getElem?_getD, List.getElem?_eq_getElem hj] at this
      exact this
  · intro h x hx
    exact h x (List.mem_of_mem_take hx)
theorem qHr (l : List Int) (n : Nat) (h : n = 0 ↔ ∀ x ∈ l, x = 0) (hl : l.length = 1024) : endedM l = decide ((n : Int) = 0) := by
  unfold endedM
  rw [decide_eq_true hl, Bool.true_and]
  by_cases hz : n = 0
  · rw [decide_eq_true (by omega), List.all_eq_true]
    intro x hx
    rw [h.1 hz x hx]
    rfl
  · rw [decide_eq_false (by omega), List.all_eq_false]
    refine Classical.byContradiction fun hn => hz (h.2 fun x hx => Classical.byContradiction fun e => hn ⟨x, hx, ?_⟩)
    rw [beq_iff_eq]
    exact e
set_option maxHeartbeats 4000000 in
set_option maxRecDepth 100000 in
theorem qGq (w0 : World) (gr : Nat) (l : List Int) (b : Bool) (w : World) (hB : Below w0.heap.size w0 w) (h : UAt w0 w gr (l, b)) (hl : l.length ≤ 1000000) :
    Calls Tryz.prog 38 #[.pointer (some ⟨gr, 0, none⟩)] w fun e w' => e = .returned (.bool (endedM l)) ∧ Below w.heap.size w w' := by
  obtain ⟨A, c, hz, hc, hC⟩ := h
  dsimp only at hz hc hC
  have HB := Aside0.mk hB
  have HZ := Aside0.mk hz
  have HC := Aside0.mk hC
  have z0 : w.cell? ⟨gr, 0, none⟩ = some (.slice A l.length c) := (qAd hz 0).trans rfl
  clear hB hz hC
  obtain ⟨b1, hb1⟩ : ∃ q, ((l.length : Int) == 1024) = q := ⟨_, rfl⟩
  have hb1d : decide ((l.length : Int) = 1024) = b1 := by rw [← hb1]; rfl
  go_enter Tryz.func38, Tryz.ntmps38
  cases b1 with
  | false =>
    have HE := Aside0.mk (show endedM l = false from by
      unfold endedM
      rw [decide_eq_false (by have := of_decide_eq_false hb1d; omega), Bool.false_and])
    rw [HE.out]
    go_wp2_with fail
    go_ret
    exact ⟨rfl, Below.refl _ _⟩
  | true =>
    have hl1 : l.length = 1024 := by have := of_decide_eq_true hb1d; omega
    have HT := Aside0.mk (qG8 A c l w (Kd.C_below HC.out HB.out) hc hl (by omega))
    rw [hl1] at HT
    have HEI := Aside0.mk (fun n h => qHr l n h hl1)
    go_wp2_with fail
    refine HT.out.mono ?_
    rintro e w2 ⟨A1, n, c1, rfl, hn, hb⟩
    have HEn := Aside0.mk (HEI.out n hn)
    have HB2 := Aside0.mk hb
    obtain ⟨bz, hbz⟩ : ∃ q, ((n : Int) == 0) = q := ⟨_, rfl⟩
    have hbzd : decide ((n : Int) = 0) = bz := by rw [← hbz]; rfl
    have hbzn : (n == 0) = bz := by rw [← hbz]; cases n <;> rfl
    rw [hbzd] at HEn
    clear hn hb HT HEI
    cases bz with
    | true =>
      go_wp2_with fail
      go_ret
      exact ⟨by rw [HEn.out]; rfl, HB2.out⟩
    | false =>
      go_wp2_with fail
      go_ret
      exact ⟨by rw [HEn.out]; rfl, HB2.out⟩
end Go.Proofs.YtdijnmcfpbceaaaGreatDoor.X

namespace Go.Proofs.YtdijnmcfpbceaaaGreatDoor.X
open Go.RowKit Go.Proofs.YtdijnmcfpbceaaaGreatDoorW.PrintWords Go.Proofs.YtdijnmcfpbceaaaGreatDoorW.PrintLast Go.Proofs.YtdijnmcfpbceaaaGreatDoorW.PrintMore Go.Proofs.YtdijnmcfpbceaaaGreatDoor.P
set_option linter.unusedVariables false
set_option linter.unusedSimpArgs false
theorem qFt : (61 : UInt8) ∉ pathS.data.toList := by decide
theorem qFz : (61 : UInt8) ∉ linkS.data.toList := by decide
theorem qJ1 : linkS ≠ pathS := fun h => by
  have := congrArg ByteArray.size h
  exact absurd this (by decide)
theorem qCh (f : Nat) (x : EntT) (e : ByteArray) (h : e.size = 0) : toldM (f + 1) x e = (x, false) := by
  unfold toldM
  rw [if_pos h]
theorem qC1 (f : Nat) (x : EntT) (key value : ByteArray) (r : List UInt8) (hk : (61 : UInt8) ∉ key.data.toList) (hs : key.size + value.size ≤ 800000) :
    toldM (f + 1) x ⟨((recT key value).data.toList ++ r).toArray⟩ = toldM f (putM x key value) ⟨r.toArray⟩ := by
  have hsz := qB5 key value hs
  conv => lhs; unfold toldM
  rw [qHe key value r hk hs, if_neg (by rw [qA3, List.length_append, qAh]; omega)]
  simp
theorem qD3 : (⟨([] : List UInt8).toArray⟩ : ByteArray).size = 0 := rfl
theorem qFq (x : EntT) (v : ByteArray) : putM x pathS v = { x with name := v } := by unfold putM; rw [if_pos rfl]
theorem qFr (x : EntT) (v : ByteArray) : putM x linkS v = { x with link := v } := by unfold putM; rw [if_neg qJ1]
theorem qEw (n : S47) : extraN n = ⟨((if 100 < (nameN n).size then (recT pathS (nameN n)).data.toList else []) ++ (if n.f1 = 4 ∧ 100 < n.f2.size then (recT linkS n.f2).data.toList else [])).toArray⟩ := by
  apply qAv
  unfold extraN
  rw [ByteArray.toList_data_append]
  show _ ++ _ = _ ++ _
  congr 1
  · split <;> rfl
  · split <;> rfl
theorem qDp (s : ByteArray) (h : s.size ≤ 100) : cutS s = s := by
  apply qAv
  rw [qEn, Nat.min_eq_left h, List.take_of_length_le (by rw [qAh]; omega)]
theorem qH4 {n : S47} (h : goodN n = true) (f : Nat) : toldM (f + 3) (ownE n) (extraN n) = ({ ownE n with name := nameN n, link := if n.f1 = 4 then n.f2 else ⟨#[]⟩ }, false) := by
  obtain ⟨h1, h2, h3⟩ := qBd h
  obtain ⟨g1, g2, g3, g4, g5⟩ := qCn h
  have e4 : pathS.size = 4 := rfl
  have e8 : linkS.size = 8 := rfl
  have hn : (ownE n).name = cutS (nameN n) := by unfold ownE; split <;> rfl
  have hlk : (ownE n).link = if n.f1 = 4 then cutS n.f2 else ⟨#[]⟩ := by unfold ownE; split <;> rfl
  rw [qEw]
  generalize ownE n = x at *
  obtain ⟨nm, kd, lk, dt⟩ := x
  dsimp only at hn hlk
  subst hn hlk
  by_cases p : 100 < (nameN n).size
  · rw [if_pos p]
    by_cases q : n.f1 = 4 ∧ 100 < n.f2.size
    · rw [if_pos q, qC1 _ _ _ _ _ qFt (by omega), qFq, show (recT linkS n.f2).data.toList = (recT linkS n.f2).data.toList ++ [] from (List.append_nil _).symm, qC1 _ _ _ _ _ qFz (by omega), qFr, qCh _ _ _ qD3]
      simp only [if_pos q.1]
    · rw [if_neg q, qC1 _ _ _ _ _ qFt (by omega), qFq, qCh _ _ _ qD3]
      by_cases k : n.f1 = 4
      · have hs2 : n.f2.size ≤ 100 := by
          rcases Nat.lt_or_ge 100 n.f2.size with h9 | h9
          · exact absurd ⟨k, h9⟩ q
          · exact h9
        simp only [if_pos k, qDp n.f2 hs2]
      · simp only [if_neg k]
  · rw [if_neg p, List.nil_append]
    have hc := qDp (nameN n) (by omega)
    by_cases q : n.f1 = 4 ∧ 100 < n.f2.size
    · rw [if_pos q, show (recT linkS n.f2).data.toList = (recT linkS n.f2).data.toList ++ [] from (List.append_nil _).symm, qC1 _ _ _ _ _ qFz (by omega), qFr, qCh _ _ _ qD3, hc]
      simp only [if_pos q.1]
    · rw [if_neg q, qCh _ _ _ qD3, hc]
      by_cases k : n.f1 = 4
      · have hs2 : n.f2.size ≤ 100 := by
          rcases Nat.lt_or_ge 100 n.f2.size with h9 | h9
          · exact absurd ⟨k, h9⟩ q
          · exact h9
        simp only [if_pos k, qDp n.f2 hs2]
      · simp only [if_neg k]
theorem qIg {n : S47} (h : goodN n = true) : (if nameN n = dotS then (⟨#[]⟩ : ByteArray) else nameN n) = n.f0 := by
  unfold nameN
  split
  · rename_i e
    rw [if_pos (show (⟨#[46]⟩ : ByteArray) = dotS from rfl)]
    exact qAv (List.eq_nil_of_length_eq_zero (by rw [qAh]; exact e)).symm
  · rename_i e
    rw [if_neg]
    intro ed
    have hp := (qBd h).1
    rw [ed] at hp
    exact absurd hp (by decide)
theorem qE9 {n : S47} (h : goodN n = true) (r : List Int) : nodeM ((entsN n).flatMap entryB ++ r, false) = (n, (r, false)) := by
  obtain ⟨h1, h2, h3⟩ := qBd h
  have ho := qG2 h
  have hk : (ownE n).kind = n.f1 := by unfold ownE; split <;> rfl
  have hx := qH4 h
  have hnode : nodeX { ownE n with name := nameN n, link := if n.f1 = 4 then n.f2 else ⟨#[]⟩ } = n := by
    unfold nodeX
    dsimp only
    rw [qIg h, hk]
    have hd : (ownE n).data = if n.f1 = 4 then ⟨#[]⟩ else n.f2 := by unfold ownE; split <;> rfl
    rw [hd]
    by_cases k : n.f1 = 4
    · rw [if_pos k, if_pos k, qB3]
    · rw [if_neg k, if_neg k, qBo]
  unfold entsN at ho ⊢
  by_cases hz : (extraN n).size = 0
  · rw [if_pos hz] at ho ⊢
    have hO := ho (ownE n) (by simp)
    have e1 := qEk hO r
    have e0 := qCh 2 (ownE n) (extraN n) hz
    have e2 := hx 0
    rw [e0] at e2
    have e3 := (Prod.mk.inj e2).1
    simp only [List.nil_append, List.flatMap_cons, List.flatMap_nil, List.append_nil]
    unfold nodeM
    simp only [e1]
    rw [if_neg (by rw [hk]; omega)]
    rw [e3, hnode]
  · rw [if_neg hz] at ho ⊢
    have hO := ho (ownE n) (by simp)
    have hX := ho ⟨⟨#[112, 97, 120]⟩, 5, ⟨#[]⟩, extraN n⟩ (by simp)
    simp only [List.cons_append, List.nil_append, List.flatMap_cons, List.flatMap_nil, List.append_nil]
    rw [List.append_assoc]
    have e1 := qEk hX (entryB (ownE n) ++ r)
    have e2 := qEk hO r
    have e3 := hx ((extraN n).size - 1)
    have e4 : toldM ((extraN n).size + 1) (ownE n) (extraN n) = ({ ownE n with name := nameN n, link := if n.f1 = 4 then n.f2 else ⟨#[]⟩ }, false) := by
      have hbig : 3 ≤ (extraN n).size + 1 := by
        have := qDn h
        have e4 : pathS.size = 4 := rfl
        have e8 : linkS.size = 8 := rfl
        rw [qEw] at hz ⊢
        rw [qA3] at hz ⊢
        rw [List.length_append] at hz ⊢
        have hs := (qCn h).2.2.1
        have r1 := qB5 pathS (nameN n) (by omega)
        have r2 := qB5 linkS n.f2 (by omega)
        by_cases p : 100 < (nameN n).size
        · rw [if_pos p, qAh] at hz ⊢
          omega
        · rw [if_neg p] at hz ⊢
          by_cases q : n.f1 = 4 ∧ 100 < n.f2.size
          · rw [if_pos q, qAh] at hz ⊢
            omega
          · rw [if_neg q] at hz
            simp at hz
      have e5 := hx ((extraN n).size + 1 - 3)
      rw [show (extraN n).size + 1 - 3 + 3 = (extraN n).size + 1 from by omega] at e5
      exact e5
    unfold nodeM
    simp only [e1, e2, e4]
    rw [if_pos trivial, hnode]
    rfl
theorem qGp {e : EntT} (h : EntOk e) : ∃ c l, entryB e = c :: l ∧ c ≠ 0 := by
  have hs := h.small
  have hl : layR e.name e.kind (e.data.size : Int) e.link = (layB e.name e.kind e.data.size e.link, true) := by
    unfold layR
    rw [if_pos ⟨h.may, by omega, by rw [Int.toNat_natCast]; omega⟩, Int.toNat_natCast]
  unfold entryB
  rw [hl, qCp _ _ _ _ h.may.2.1 h.may.2.2.2.1]
  have h0 := h.may.1
  have hz := h.may.2.2.1
  cases hd : e.name.data.toList with
  | nil => exact absurd (by rw [← qAh, hd]; rfl) h0
  | cons c l =>
    rw [hd] at hz
    have hc : c ≠ 0 := fun x => hz (by simp [x])
    refine ⟨(c.toNat : Int), ?_⟩
    have hb : bytesOf e.name = (c.toNat : Int) :: l.map fun b => (b.toNat : Int) := by
      unfold bytesOf
      rw [hd]
      rfl
    unfold canonA padS
    rw [hb]
    refine ⟨_, rfl, ?_⟩
    intro hx
    apply hc
    apply UInt8.toNat_inj.1
    have : c.toNat = 0 := by omega
    rw [this]
    rfl
theorem qEx {n : S47} (h : goodN n = true) (r : List Int) : ∃ c l, (entsN n).flatMap entryB ++ r = c :: l ∧ c ≠ 0 := by
  have ho := qG2 h
  have hne : entsN n ≠ [] := by unfold entsN; simp
  cases he : entsN n with
  | nil => exact absurd he hne
  | cons e es =>
    rw [he] at ho
    obtain ⟨c, l, h1, h2⟩ := qGp (ho e List.mem_cons_self)
    rw [List.flatMap_cons, h1]
    exact ⟨c, _, rfl, h2⟩
theorem qDf : ∀ (t u : List S47), (∀ n ∈ t, goodN n = true) → (∀ n ∈ u, goodN n = true) → ∀ w : List Int, (entsT t).flatMap entryB ++ List.replicate 1024 0 = (entsT u).flatMap entryB ++ List.replicate 1024 0 ++ w → t = u ∧ w = []
  | [], [], _, _, w, h => by
    refine ⟨rfl, ?_⟩
    have := congrArg List.length h
    simp only [List.length_append, List.length_replicate] at this
    exact List.eq_nil_of_length_eq_zero (by omega)
  | [], m :: u, _, hu, w, h => by
    exfalso
    obtain ⟨c, l, h1, h2⟩ := qEx (hu m List.mem_cons_self) ((entsT u).flatMap entryB ++ List.replicate 1024 0 ++ w)
    have e : (entsT (m :: u)).flatMap entryB ++ List.replicate 1024 0 ++ w = c :: l := by
      rw [← h1]
      unfold entsT
      rw [List.flatMap_cons, List.flatMap_append]
      simp only [List.append_assoc]
    rw [e] at h
    have h3 := congrArg List.head? h
    simp only [entsT, List.flatMap_nil, List.nil_append, List.head?_replicate] at h3
    simp at h3
    exact h2 h3.symm
  | n :: t, [], ht, _, w, h => by
    exfalso
    obtain ⟨c, l, h1, h2⟩ := qEx (ht n List.mem_cons_self) ((entsT t).flatMap entryB ++ List.replicate 1024 0)
    have e : (entsT (n :: t)).flatMap entryB ++ List.replicate 1024 0 = c :: l := by
      rw [← h1]
      unfold entsT
      rw [List.flatMap_cons, List.flatMap_append]
      simp only [List.append_assoc]
    rw [e] at h
    have h3 := congrArg List.head? h
    simp only [entsT, List.flatMap_nil, List.nil_append, List.head?_append, List.head?_replicate] at h3
    simp at h3
    exact h2 h3
  | n :: t, m :: u, ht, hu, w, h => by
    have gn := ht n List.mem_cons_self
    have gm := hu m List.mem_cons_self
    have e1 : (entsT (n :: t)).flatMap entryB ++ List.replicate 1024 0 = (entsN n).flatMap entryB ++ ((entsT t).flatMap entryB ++ List.replicate 1024 0) := by
      unfold entsT
      rw [List.flatMap_cons, List.flatMap_append]
      simp only [List.append_assoc]
    have e2 : (entsT (m :: u)).flatMap entryB ++ List.replicate 1024 0 ++ w = (entsN m).flatMap entryB ++ ((entsT u).flatMap entryB ++ List.replicate 1024 0 ++ w) := by
      unfold entsT
      rw [List.flatMap_cons, List.flatMap_append]
      simp only [List.append_assoc]
    rw [e1, e2] at h
    have r1 := qE9 gn ((entsT t).flatMap entryB ++ List.replicate 1024 0)
    have r2 := qE9 gm ((entsT u).flatMap entryB ++ List.replicate 1024 0 ++ w)
    rw [h, r2] at r1
    obtain ⟨a, b⟩ := Prod.mk.inj r1
    obtain ⟨b, _⟩ := Prod.mk.inj b
    obtain ⟨c, d⟩ := qDf t u (fun x hx => ht x (List.mem_cons_of_mem _ hx)) (fun x hx => hu x (List.mem_cons_of_mem _ hx)) w b.symm
    exact ⟨by rw [a, c], d⟩
theorem qHs : endedM (List.replicate 1024 0) = true := by
  unfold endedM
  rw [List.length_replicate, decide_eq_true (rfl : 1024 = 1024), Bool.true_and, List.all_eq_true]
  intro x hx
  rw [(List.mem_replicate.1 hx).2]
  rfl
theorem qGy : ∀ (u : List S47) (f : Nat) (t : List S47), (∀ n ∈ u, goodN n = true) → t.length + u.length ≤ 400 → u.length < f → readM f ((entsT u).flatMap entryB ++ List.replicate 1024 0, false) t = (t ++ u, false)
  | [], f, t, _, _, hf => by
    obtain ⟨f, rfl⟩ : ∃ k, f = k + 1 := ⟨f - 1, by simp at hf; omega⟩
    unfold readM
    simp only [entsT, List.flatMap_nil, List.nil_append, List.append_nil]
    rw [if_pos (.inr (.inl qHs))]
  | n :: u, f, t, hg, hl, hf => by
    obtain ⟨f, rfl⟩ : ∃ k, f = k + 1 := ⟨f - 1, by simp at hf; omega⟩
    rw [List.length_cons] at hl hf
    have gn := hg n List.mem_cons_self
    have e1 : (entsT (n :: u)).flatMap entryB ++ List.replicate 1024 0 = (entsN n).flatMap entryB ++ ((entsT u).flatMap entryB ++ List.replicate 1024 0) := by
      unfold entsT
      rw [List.flatMap_cons, List.flatMap_append]
      simp only [List.append_assoc]
    have hne : endedM ((entsT (n :: u)).flatMap entryB ++ List.replicate 1024 0) = false := by
      unfold endedM
      rw [Bool.and_eq_false_iff]
      left
      rw [decide_eq_false_iff_not, e1]
      have h1 := qF4 gn
      have h2 : 1 ≤ headN n := by unfold headN; omega
      rw [List.length_append, List.length_append, List.length_replicate, h1.2]
      omega
    unfold readM
    rw [if_neg (by
      rw [hne]
      simp only [Bool.false_eq_true, false_or]
      omega)]
    rw [e1, qE9 gn]
    simp only
    rw [qGy u f (t ++ [n]) (fun x hx => hg x (List.mem_cons_of_mem _ hx)) (by rw [List.length_append, List.length_singleton]; omega) (by omega)]
    simp
theorem qIz {t : List S47} (h : treeB t = true) : untR (tarB t) = (t, 0) := by
  have hl := (qBi h).2
  have hr := qGy t 402 [] (qBh h) (by simpa using hl) (by omega)
  unfold untR
  rw [qB4, hr]
  simp only [List.nil_append]
  rw [if_pos ⟨by trivial, h, qB4⟩]
theorem qC0 (b : List Int) : untR b = ([], 5) ∨ ∃ t, untR b = (t, 0) ∧ treeB t = true ∧ tarB t = b := by
  unfold untR
  dsimp only
  split
  · rename_i h
    exact .inr ⟨_, rfl, h.2.1, h.2.2⟩
  · exact .inl rfl
theorem qG6 {t : List S47} (h : treeB t = true) {b w : List Int} (hw : w ≠ []) (hb : b ++ w = tarB t ∨ b = tarB t ++ w) : untR b = ([], 5) := by
  rcases qC0 b with e | ⟨u, e, hu, hbu⟩
  · exact e
  · exfalso
    subst hbu
    rcases hb with hb | hb
    · rw [qB4, qB4] at hb
      exact hw (qDf t u (qBh h) (qBh hu) w hb.symm).2
    · rw [qB4, qB4] at hb
      exact hw (qDf u t (qBh hu) (qBh h) w hb).2
end Go.Proofs.YtdijnmcfpbceaaaGreatDoor.X

namespace Go.Proofs.YtdijnmcfpbceaaaGreatDoor.X
open Go.RowKit Go.Proofs.YtdijnmcfpbceaaaGreatDoorW.PrintWords Go.Proofs.YtdijnmcfpbceaaaGreatDoorW.PrintLast Go.Proofs.YtdijnmcfpbceaaaGreatDoorW.PrintMore Go.Proofs.YtdijnmcfpbceaaaGreatDoor.P
set_option linter.unusedVariables false
set_option linter.unusedSimpArgs false
def nodeCs (n : S47) : List Value := [.string n.f0, .int .i64 n.f1, .string n.f2]
def rowCs (t : List S47) : List Value := t.flatMap nodeCs
theorem qHd (w : World) (t : List S47) : Reps (fun p c => k47.K w p c) 3 t (rowCs t) := by
  induction t with
  | nil => exact Reps.none _ _
  | cons n t ih => exact Reps.front (k47_mk w n) rfl ih rfl
theorem qBv {w : World} {base e : Nat} {v : Value} {t : List S47} (h : w.ownsRow base e 3 v t.length (rowCs t)) : ∃ A c, v = .slice A t.length c ∧ t.length ≤ c ∧ k47.C w A t.length t := by
  obtain ⟨A, c, rfl, hr⟩ := qCb h (qHd w t) rfl
  exact ⟨A, c, rfl, qDk h, hr⟩
theorem qGm (l : List Int) (b : Bool) (hb : Bytes l) : (nodeM (l, b)).2.1.length ≤ l.length ∧ Bytes (nodeM (l, b)).2.1 := by
  obtain ⟨_, _, a, c⟩ := qB2 l b hb
  unfold nodeM
  dsimp only
  split
  · obtain ⟨_, _, d, e⟩ := qB2 (entryM (l, b)).2.1 (entryM (l, b)).2.2 c
    exact ⟨Nat.le_trans d a, e⟩
  · exact ⟨a, c⟩
theorem qCt {a : List Int} (h : Bytes a) : (Lib.bytesOf a).map (fun c => (c.toNat : Int)) = a := by
  unfold Lib.bytesOf
  rw [List.map_map]
  conv => rhs; rw [← List.map_id a]
  refine List.map_congr_left fun x hx => ?_
  have hb := h x hx
  show ((UInt8.ofNat x.toNat).toNat : Int) = x
  rw [UInt8.toNat_ofNat_of_lt' (by show _ < 256; omega)]
  omega
theorem qFa {a b : List Int} (ha : Bytes a) (hb : Bytes b) (h : Lib.bytesOf a = Lib.bytesOf b) : a = b := by
  rw [← qCt ha, ← qCt hb, h]
theorem qEa (bs : List Int) (t : List S47) (bd : Bool) (hby : Bytes bs) (h : readM 402 (bs, false) [] = (t, bd)) : untR bs = if bd = false ∧ ((tarR t).2 != 0) = false ∧ (Lib.bytesOf (tarR t).1 == Lib.bytesOf bs) = true then (t, 0) else ([], 5) := by
  unfold untR
  rw [h]
  dsimp only
  unfold tarR
  by_cases ht : treeB t = true
  · rw [if_pos ht]
    have e : (Lib.bytesOf (tarB t) == Lib.bytesOf bs) = true ↔ tarB t = bs := ⟨fun h => qFa (qDg t) hby (beq_iff_eq.1 h), fun h => by rw [h]; simp⟩
    by_cases hb : bd = false ∧ tarB t = bs
    · rw [if_pos ⟨hb.1, ht, hb.2⟩, if_pos ⟨hb.1, rfl, e.2 hb.2⟩]
    · rw [if_neg (fun x => hb ⟨x.1, x.2.2⟩), if_neg (fun x => hb ⟨x.1, e.1 x.2.2⟩)]
  · rw [if_neg (fun x => ht x.2.1), if_neg (fun x => by
      have h2 := x.2.1
      rw [if_neg ht] at h2
      cases h2)]
set_option maxHeartbeats 4000000 in
set_option maxRecDepth 100000 in
theorem qBg (A : Option Addr) (c : Nat) (bs : List Int) (w : World) (hT : Aside0 (Tabs w)) (hE : Aside0 (ErrV w)) (hC : (Kd.int .u8).C w A bs.length bs) (hc : bs.length ≤ c) (hl : bs.length ≤ 1000000) (hby : Bytes bs) :
    Calls Tryz.prog 20 #[.slice A bs.length c] w fun e w' => ∃ v, e = .returned (.tuple #[v, .int .i64 (untR bs).2]) ∧ w'.ownsRow w.heap.size 47 3 v (untR bs).1.length (rowCs (untR bs).1) ∧ Below w.heap.size w w' := by
  obtain ⟨R, hR⟩ : ∃ R, untR bs = R := ⟨_, rfl⟩
  rw [hR]
  have HR := Aside0.mk hR
  clear hR
  have X := Aside0.mk hC
  clear hC
  have HB0 := Aside0.mk (qAb (Below.refl w.heap.size w) (.cells #[.slice A bs.length c, .bool false] 68))
  have HU0 := Aside0.mk (show UAt w (w.alloc (.cells #[.slice A bs.length c, .bool false] 68)) w.heap.size (bs, false) from ⟨A, c, qA7 w _, hc, X.out⟩)
  go_enter Tryz.func20, Tryz.ntmps20
  have hgr : w.heap.size ≤ w.heap.size := Nat.le_refl _
  go_wp2_with fail
  generalize w.alloc (.cells #[.slice A bs.length c, .bool false] 68) = W0 at *
  go_loopw [5] (fun v5 wr => ∃ (v : Value) (t : List S47) (l : List Int) (bd : Bool) (f : Nat), v5 = v ∧ f + 1 + t.length = 402 ∧ l.length ≤ 1000000 ∧ Aside0 (Bytes l) ∧ Aside0 (UAt w wr w.heap.size (l, bd)) ∧ Aside0 (wr.ownsRow w.heap.size 47 3 v t.length (rowCs t)) ∧ Aside0 (Below w.heap.size w wr) ∧ Aside0 (readM 402 (bs, false) [] = readM (f + 1) (l, bd) t)) (fun v _ => 402 - rowLen v)
  case atStart => exact ⟨_, [], bs, false, 401, rfl, rfl, hl, ⟨hby⟩, HU0, ⟨⟨rfl, .inl ⟨rfl, rfl⟩⟩⟩, HB0, ⟨rfl⟩⟩
  case round =>
    clear HB0 HU0
    obtain ⟨v, t, l, bd, f, rfl, hf, hll, HY, HU, HO, HB, HM⟩ := hrel
    obtain ⟨z1, hfz⟩ := HU.out.bad
    dsimp only at z1
    obtain ⟨A', c', rfl⟩ := qBw HO.out
    cases bd with
    | true =>
      have HRM := Aside0.mk (show readM 402 (bs, false) [] = (t, true) from by rw [HM.out]; unfold readM; rw [if_pos (.inl rfl)])
      clear HM
      go_wp2_with fail
      obtain ⟨A2, c2, e2, hc', hC'⟩ := qBv HO.out
      cases e2
      refine (qBn A' c' t wr ⟨Tabs.below hT.out HB.out⟩ hC' hc' (by omega)).mono ?_
      rintro e w5 ⟨v5, rfl, ho5, hb5⟩
      obtain ⟨A5, c5, rfl, hR5⟩ := qBx ho5
      have HB5 := Aside0.mk (qAe HB.out hb5)
      have HU5 := Aside0.mk (HU.out.keep (hb5.block _ HU.out.lt))
      have HO5 := Aside0.mk (qBe HO.out (fun k hk => hb5.block k (own_lt HO.out k hk)))
      have hk1 := show (convert 26 9 (.slice A5 (tarR t).1.length c5)).run Tryz.prog w5 = .ok (.string (strOfNums (tarR t).1)) w5 from Kd.C_string Tryz.underlying26 Tryz.underlying5 Tryz.underlying9 (Kd.C_of_reads (d := (0 : Int)) (h1 := fun _ => rfl) hR5)
      have hk2 := show (convert 26 9 (.slice A bs.length c)).run Tryz.prog w5 = .ok (.string (strOfNums bs)) w5 from Kd.C_string Tryz.underlying26 Tryz.underlying5 Tryz.underlying9 (Kd.C_below X.out HB5.out)
      have HEq := Aside0.mk (Tryz.bytes_Equal (.slice A5 (tarR t).1.length c5) (.slice A bs.length c) (tarR t).1 bs w5 hk1 hk2)
      obtain ⟨z1, hfz⟩ := HU5.out.bad
      dsimp only at z1
      have HF := Aside0.mk (qEa bs t true hby HRM.out)
      rw [HR.out] at HF
      obtain ⟨be, hbe⟩ : ∃ q, ((tarR t).2 != 0) = q := ⟨_, rfl⟩
      obtain ⟨bq, hbq⟩ : ∃ q, (Lib.bytesOf (tarR t).1 == Lib.bytesOf bs) = q := ⟨_, rfl⟩
      rw [hbe, hbq] at HF
      rw [hbq] at HEq
      have hbe2 : ((tarR t).2 == 0) = !be := by rw [← hbe]; simp [bne]
      generalize (tarR t).2 = code at *
      generalize (tarR t).1.length = tl at *
      clear ho5 hb5 hR5 hk1 hk2 hbq HU HO HB HRM HU5
      have HRv := Aside0.mk (show R = ([], 5) from by rw [HF.out, if_neg (by simp)])
      clear HF
      go_wp2_with fail
      go_ret2
      rw [HRv.out]
      exact ⟨_, rfl, ⟨rfl, .inl ⟨rfl, rfl⟩⟩, HB5.out⟩
    | false =>
      obtain ⟨be, hbe⟩ : ∃ q, endedM l = q := ⟨_, rfl⟩
      have HEn := Aside0.mk hbe
      have HEc := Aside0.mk (qGq w w.heap.size l false wr HB.out HU.out hll)
      rw [hbe] at HEc
      clear hbe
      cases be with
      | true =>
        have HW2 := HM
        go_wp2_with fail
        refine HEc.out.mono ?_
        rintro e w2 ⟨rfl, hb2⟩
        have HB := Aside0.mk (qAe HB.out hb2)
        have HO := Aside0.mk (qBe HO.out (fun k hk => hb2.block k (own_lt HO.out k hk)))
        have HU := Aside0.mk (HU.out.keep (hb2.block _ HU.out.lt))
        clear hb2 HW2 z1 hfz HEc
        have HRM := Aside0.mk (show readM 402 (bs, false) [] = (t, false) from by rw [HM.out]; unfold readM; rw [if_pos (.inr (.inl HEn.out))])
        clear HM
        go_wp2_with fail
        obtain ⟨A2, c2, e2, hc', hC'⟩ := qBv HO.out
        cases e2
        refine (qBn A' c' t w2 ⟨Tabs.below hT.out HB.out⟩ hC' hc' (by omega)).mono ?_
        rintro e w5 ⟨v5, rfl, ho5, hb5⟩
        obtain ⟨A5, c5, rfl, hR5⟩ := qBx ho5
        have HB5 := Aside0.mk (qAe HB.out hb5)
        have HU5 := Aside0.mk (HU.out.keep (hb5.block _ HU.out.lt))
        have HO5 := Aside0.mk (qBe HO.out (fun k hk => hb5.block k (own_lt HO.out k hk)))
        have hk1 := show (convert 26 9 (.slice A5 (tarR t).1.length c5)).run Tryz.prog w5 = .ok (.string (strOfNums (tarR t).1)) w5 from Kd.C_string Tryz.underlying26 Tryz.underlying5 Tryz.underlying9 (Kd.C_of_reads (d := (0 : Int)) (h1 := fun _ => rfl) hR5)
        have hk2 := show (convert 26 9 (.slice A bs.length c)).run Tryz.prog w5 = .ok (.string (strOfNums bs)) w5 from Kd.C_string Tryz.underlying26 Tryz.underlying5 Tryz.underlying9 (Kd.C_below X.out HB5.out)
        have HEq := Aside0.mk (Tryz.bytes_Equal (.slice A5 (tarR t).1.length c5) (.slice A bs.length c) (tarR t).1 bs w5 hk1 hk2)
        obtain ⟨z1, hfz⟩ := HU5.out.bad
        dsimp only at z1
        have HF := Aside0.mk (qEa bs t false hby HRM.out)
        rw [HR.out] at HF
        obtain ⟨be, hbe⟩ : ∃ q, ((tarR t).2 != 0) = q := ⟨_, rfl⟩
        obtain ⟨bq, hbq⟩ : ∃ q, (Lib.bytesOf (tarR t).1 == Lib.bytesOf bs) = q := ⟨_, rfl⟩
        rw [hbe, hbq] at HF
        rw [hbq] at HEq
        have hbe2 : ((tarR t).2 == 0) = !be := by rw [← hbe]; simp [bne]
        generalize (tarR t).2 = code at *
        generalize (tarR t).1.length = tl at *
        clear ho5 hb5 hR5 hk1 hk2 hbq HU HO HB HRM HU5
        cases be with
        | true =>
          have HRv := Aside0.mk (show R = ([], 5) from by rw [HF.out, if_neg (by simp)])
          clear HF
          go_wp2_with fail
          go_ret2
          rw [HRv.out]
          exact ⟨_, rfl, ⟨rfl, .inl ⟨rfl, rfl⟩⟩, HB5.out⟩
        | false =>
          cases bq with
          | false =>
            have HRv := Aside0.mk (show R = ([], 5) from by rw [HF.out, if_neg (by simp)])
            clear HF
            go_wp2_with fail
            refine HEq.out.mono ?_
            rintro e w6 ⟨rfl, rfl⟩
            go_wp2_with fail
            go_ret2
            rw [HRv.out]
            exact ⟨_, rfl, ⟨rfl, .inl ⟨rfl, rfl⟩⟩, HB5.out⟩
          | true =>
            have HRv := Aside0.mk (show R = (t, 0) from by rw [HF.out, if_pos ⟨rfl, rfl, rfl⟩])
            clear HF
            go_wp2_with fail
            refine HEq.out.mono ?_
            rintro e w6 ⟨rfl, rfl⟩
            go_wp2_with fail
            go_ret2
            rw [HRv.out]
            exact ⟨_, rfl, HO5.out, HB5.out⟩
      | false =>
        by_cases hlen : t.length ≤ 400
        · have hld : decide ((t.length : Int) ≤ 400) = true := decide_eq_true (by omega)
          have HMs := Aside0.mk (show readM 402 (bs, false) [] = readM f (nodeM (l, false)).2 (t ++ [(nodeM (l, false)).1]) from by
            rw [HM.out]
            conv => lhs; unfold readM
            rw [if_neg (by rw [HEn.out]; simp; omega)])
          clear HM
          go_wp2_with fail
          refine HEc.out.mono ?_
          rintro e w2 ⟨rfl, hb2⟩
          have HB2 := Aside0.mk (qAe HB.out hb2)
          have HO2 := Aside0.mk (qBe HO.out (fun k hk => hb2.block k (own_lt HO.out k hk)))
          have HU2 := Aside0.mk (HU.out.keep (hb2.block _ HU.out.lt))
          clear hb2 z1 hfz HEc HB HO HU
          go_wp2_with fail
          refine (qGe w w.heap.size l false w2 hT hE hgr HB2.out HU2.out hll HY.out).mono ?_
          rintro e w3 ⟨rfl, hU3, hS3⟩
          have HNf := Aside0.mk (qGm l false HY.out)
          generalize nodeM (l, false) = N at *
          obtain ⟨x, l2, b2⟩ := N
          dsimp only at *
          have HU3 := Aside0.mk hU3
          have HB3 := Aside0.mk (qB8 HB2.out hS3 hgr (fun k hk => by cases hk))
          have hgo : ∀ k, (Value.slice A' t.length c').ownBlock = some k → k ≠ w.heap.size := fun k hk e => by
            obtain ⟨Ar, cr, hr1, _, _⟩ := HU2.out
            exact own_ne HO2.out hr1 (by decide) (by rw [hk, e])
          have HO3 := Aside0.mk (qBe HO2.out (fun k hk => hS3.block k (own_lt HO2.out k hk) (hgo k hk) (by simp)))
          clear hU3 hS3 HU2 HB2
          have hf1 : t.length + 1 ≤ 402 := by omega
          go_wp2_with (at_builtin; refine qC3 (w0 := w) w.heap.size rfl (.tmp 26) (.tmp 29) 22 47 (.agg #[.string ⟨#[]⟩, .int .i64 0, .string ⟨#[]⟩]) 3 40 rfl Tryz.underlying22 (by kernel_rfl) rfl (by decide) (by decide) (.slice A' t.length c') t.length (rowCs t) (nodeCs x) rfl rfl rfl (by intro u hu; simp [nodeCs] at hu; rcases hu with rfl | rfl | rfl <;> rfl) HO3.out HB3.out HB3.out.size (by omega) ?_; intro v4 w4 ho4 hb4 hg4 _; have HO4 := Aside0.mk ho4; have HB4 := Aside0.mk hb4; have HG4 := Aside0.mk hg4; clear ho4 hb4 hg4)
          obtain ⟨A4, c4, rfl⟩ := qBw HO4.out
          have hUk : UAt w w4 w.heap.size (l2, b2) := by
            refine HU3.out.keep ?_
            obtain ⟨Ar, cr, hr1, _, _⟩ := HU3.out
            exact HG4.out.block _ (blk_lt hr1) (own_ne HO3.out hr1 (by decide))
          have hrw : rowCs (t ++ [x]) = rowCs t ++ nodeCs x := by
            unfold rowCs
            rw [List.flatMap_append]
            simp
          have hrl : (t ++ [x]).length = t.length + 1 := by simp
          have hN := HNf.out
          refine ⟨⟨.slice A4 (t.length + 1) c4, t ++ [x], l2, b2, f - 1, rfl, by rw [hrl]; omega, by omega, ⟨hN.2⟩, ⟨hUk⟩, ⟨by rw [hrl, hrw]; exact HO4.out⟩, HB4, ⟨by rw [show f - 1 + 1 = f from by omega]; exact HMs.out⟩⟩, by simp only [rowLen]; omega⟩
        · have hld : decide ((t.length : Int) ≤ 400) = false := decide_eq_false (by omega)
          go_wp2_with fail
          refine HEc.out.mono ?_
          rintro e w2 ⟨rfl, hb2⟩
          have HB := Aside0.mk (qAe HB.out hb2)
          have HO := Aside0.mk (qBe HO.out (fun k hk => hb2.block k (own_lt HO.out k hk)))
          have HU := Aside0.mk (HU.out.keep (hb2.block _ HU.out.lt))
          clear hb2 z1 hfz HEc
          have HRM := Aside0.mk (show readM 402 (bs, false) [] = (t, false) from by rw [HM.out]; unfold readM; rw [if_pos (.inr (.inr (by omega)))])
          clear HM
          go_wp2_with fail
          obtain ⟨A2, c2, e2, hc', hC'⟩ := qBv HO.out
          cases e2
          refine (qBn A' c' t w2 ⟨Tabs.below hT.out HB.out⟩ hC' hc' (by omega)).mono ?_
          rintro e w5 ⟨v5, rfl, ho5, hb5⟩
          obtain ⟨A5, c5, rfl, hR5⟩ := qBx ho5
          have HB5 := Aside0.mk (qAe HB.out hb5)
          have HU5 := Aside0.mk (HU.out.keep (hb5.block _ HU.out.lt))
          have HO5 := Aside0.mk (qBe HO.out (fun k hk => hb5.block k (own_lt HO.out k hk)))
          have hk1 := show (convert 26 9 (.slice A5 (tarR t).1.length c5)).run Tryz.prog w5 = .ok (.string (strOfNums (tarR t).1)) w5 from Kd.C_string Tryz.underlying26 Tryz.underlying5 Tryz.underlying9 (Kd.C_of_reads (d := (0 : Int)) (h1 := fun _ => rfl) hR5)
          have hk2 := show (convert 26 9 (.slice A bs.length c)).run Tryz.prog w5 = .ok (.string (strOfNums bs)) w5 from Kd.C_string Tryz.underlying26 Tryz.underlying5 Tryz.underlying9 (Kd.C_below X.out HB5.out)
          have HEq := Aside0.mk (Tryz.bytes_Equal (.slice A5 (tarR t).1.length c5) (.slice A bs.length c) (tarR t).1 bs w5 hk1 hk2)
          obtain ⟨z1, hfz⟩ := HU5.out.bad
          dsimp only at z1
          have HF := Aside0.mk (qEa bs t false hby HRM.out)
          rw [HR.out] at HF
          obtain ⟨be, hbe⟩ : ∃ q, ((tarR t).2 != 0) = q := ⟨_, rfl⟩
          obtain ⟨bq, hbq⟩ : ∃ q, (Lib.bytesOf (tarR t).1 == Lib.bytesOf bs) = q := ⟨_, rfl⟩
          rw [hbe, hbq] at HF
          rw [hbq] at HEq
          have hbe2 : ((tarR t).2 == 0) = !be := by rw [← hbe]; simp [bne]
          generalize (tarR t).2 = code at *
          generalize (tarR t).1.length = tl at *
          clear ho5 hb5 hR5 hk1 hk2 hbq HU HO HB HRM HU5
          cases be with
          | true =>
            have HRv := Aside0.mk (show R = ([], 5) from by rw [HF.out, if_neg (by simp)])
            clear HF
            go_wp2_with fail
            go_ret2
            rw [HRv.out]
            exact ⟨_, rfl, ⟨rfl, .inl ⟨rfl, rfl⟩⟩, HB5.out⟩
          | false =>
            cases bq with
            | false =>
              have HRv := Aside0.mk (show R = ([], 5) from by rw [HF.out, if_neg (by simp)])
              clear HF
              go_wp2_with fail
              refine HEq.out.mono ?_
              rintro e w6 ⟨rfl, rfl⟩
              go_wp2_with fail
              go_ret2
              rw [HRv.out]
              exact ⟨_, rfl, ⟨rfl, .inl ⟨rfl, rfl⟩⟩, HB5.out⟩
            | true =>
              have HRv := Aside0.mk (show R = (t, 0) from by rw [HF.out, if_pos ⟨rfl, rfl, rfl⟩])
              clear HF
              go_wp2_with fail
              refine HEq.out.mono ?_
              rintro e w6 ⟨rfl, rfl⟩
              go_wp2_with fail
              go_ret2
              rw [HRv.out]
              exact ⟨_, rfl, HO5.out, HB5.out⟩
end Go.Proofs.YtdijnmcfpbceaaaGreatDoor.X

namespace Go.Proofs.YtdijnmcfpbceaaaGreatDoor.P
open Go.Proofs.YtdijnmcfpbceaaaGreatDoor.X
open Go.RowKit Go.Proofs.YtdijnmcfpbceaaaGreatDoorW.PrintWords Go.Proofs.YtdijnmcfpbceaaaGreatDoorW.PrintLast Go.Proofs.YtdijnmcfpbceaaaGreatDoorW.PrintMore
attribute [local go_sem] qAr qAu
set_option linter.unusedVariables false
set_option linter.unusedSimpArgs false
theorem eqA47 (d : Nat) (w : World) (x0 y0 : ByteArray) (x1 y1 : Int) (x2 y2 : ByteArray) :
    (Op.equalIn (d + 2) 47 (.agg #[.string x0, .int .i64 x1, .string x2]) (.agg #[.string y0, .int .i64 y1, .string y2])).run Tryz.prog w = .ok (x0.toList == y0.toList && (x1 == y1 && (x2.toList == y2.toList))) w := by
  refine eqA_of Tryz.underlying47 (by kernel_rfl) ?_
  refine qG1 (by rfl) (by go_simp; rfl) (by go_simp; rfl) (by go_simp) ?_
  refine qG1 (by rfl) (by go_simp; rfl) (by go_simp; rfl) (by go_simp) ?_
  exact qJi (by rfl) (by go_simp; rfl) (by go_simp; rfl) (by go_simp)
end Go.Proofs.YtdijnmcfpbceaaaGreatDoor.P

namespace Go.Proofs.YtdijnmcfpbceaaaGreatDoor.P
open Go.Proofs.YtdijnmcfpbceaaaGreatDoor.X
open Go.RowKit Go.Proofs.YtdijnmcfpbceaaaGreatDoorW.PrintWords Go.Proofs.YtdijnmcfpbceaaaGreatDoorW.PrintLast Go.Proofs.YtdijnmcfpbceaaaGreatDoorW.PrintMore
attribute [local go_sem] qAr qAu
set_option linter.unusedVariables false
set_option linter.unusedSimpArgs false
attribute [local go_sem high] eqA47
def hogsheadlaw0_SameNodes.l0 : Nat → List (S47) → List (S47) → Int → Option (Bool)
 | 0, _, _, _ => none
 | k + 1, x0, x1, x5 => if x5 < (x0.length : Int) then (if 0 ≤ x5 then (if x5 < (x1.length : Int) then (if (!((((rd_T47 x0 x5).f0).toList) == (((rd_T47 x1 x5).f0).toList)) || (!(((rd_T47 x0 x5).f1) == ((rd_T47 x1 x5).f1)) || (!((((rd_T47 x0 x5).f2).toList) == (((rd_T47 x1 x5).f2).toList))))) = true then (some false) else (hogsheadlaw0_SameNodes.l0 k x0 x1 (wrap64 (x5 + 1)))) else (none)) else (none)) else (some true)
def hogsheadlaw0_SameNodes.f (k : Nat) (l0 : List (S47)) (l1 : List (S47)) : Option (Bool) := if (l0.length : Int) = (l1.length : Int) then (hogsheadlaw0_SameNodes.l0 k l0 l1 0) else (some false)
set_option maxHeartbeats 8000000 in
set_option maxRecDepth 100000 in
theorem hogsheadlaw0_SameNodes.calls (k : Nat) (A0 : Option Addr) (c0 : Nat) (l0 : List (S47)) (A1 : Option Addr) (c1 : Nat) (l1 : List (S47)) (r : Bool) (w : World) (hr0 : Kd.C k47 w A0 l0.length l0) (hc0 : l0.length ≤ c0) (hr1 : Kd.C k47 w A1 l1.length l1) (hc1 : l1.length ≤ c1) (h : hogsheadlaw0_SameNodes.f k l0 l1 = some r) :
  Calls Tryz.prog 23 #[.slice A0 l0.length c0, .slice A1 l1.length c1] w fun e w' => e = .returned (.bool r) ∧ Drawn0 w w' := by
 have hu47 := Tryz.underlying47
 have HR0 := Aside0.mk hr0
 have HC0 := Aside0.mk hc0
 clear hr0 hc0
 have HR1 := Aside0.mk hr1
 have HC1 := Aside0.mk hc1
 clear hr1 hc1
 have H : (if (l0.length : Int) = (l1.length : Int) then (hogsheadlaw0_SameNodes.l0 k l0 l1 0) else (some false)) = some r := h
 clear h
 by_cases c3 : (l0.length : Int) = (l1.length : Int)
 ·rw [if_pos c3] at H
  have c3b0 : ((l0.length : Int) == (l1.length : Int)) = true := beq_iff_eq.mpr c3
  have c3b1 : ((l0.length : Int) != (l1.length : Int)) = false := bne_eq_false_iff_eq.mpr c3
  have c3b2 : (l0.length == l1.length) = true := by first | simpa using c3 | (simp at c3 ⊢; omega)
  clear c3
  have H' := Aside0.mk H
  clear H
  go_enter Tryz.func23, Tryz.ntmps23
  go_wp2
  repeat (go_quiet (fail); try go_wp2)
  go_loopg [5] k (fun kq v5 w' => ∃ (x5_1 : Int), v5 = .int .i64 x5_1 ∧ Aside0 (hogsheadlaw0_SameNodes.l0 kq l0 l1 x5_1 = some r) ∧ Aside0 (kq ≤ k) ∧ Drawn0 w w')
  case atStart => exact ⟨(0), (by first | rfl | (simp; done) | (simp [*]; done) | exact congrArg Value.bool (nil_ne _) | exact congrArg Value.bool (nil_eq _) | exact congrArg Value.bool (nil_ne' _)), H', ⟨Nat.le_refl _⟩, by repeat (first | exact Drawn0.refl _ | apply Drawn0.step)⟩
  case round =>
   clear H'
   try clear c1
   try clear c2
   try clear p2
   try clear c3
   try clear c3b0
   try clear c3b1
   try clear c3b2
   obtain ⟨x5_1, rfl, HA, HK1, ⟨m1, rfl⟩⟩ := hrel
   cases gk with
   | zero => exact absurd HA.out (by simp [hogsheadlaw0_SameNodes.l0])
   | succ k1 =>
    have H := HA.out
    clear HA
    simp only [hogsheadlaw0_SameNodes.l0] at H
    by_cases c4 : x5_1 < (l0.length : Int)
    ·rw [if_pos c4] at H
     have c4b0 : decide (x5_1 < (l0.length : Int)) = true := decide_eq_true c4
     clear c4
     by_cases c5 : 0 ≤ x5_1
     ·rw [if_pos c5] at H
      have c5b0 : decide (0 ≤ x5_1) = true := decide_eq_true c5
      clear c5
      by_cases c6 : x5_1 < (l1.length : Int)
      ·rw [if_pos c6] at H
       have c6b0 : decide (x5_1 < (l1.length : Int)) = true := decide_eq_true c6
       clear c6
       by_cases c7 : (!((((rd_T47 l0 x5_1).f0).toList) == (((rd_T47 l1 x5_1).f0).toList)) || (!(((rd_T47 l0 x5_1).f1) == ((rd_T47 l1 x5_1).f1)) || (!((((rd_T47 l0 x5_1).f2).toList) == (((rd_T47 l1 x5_1).f2).toList))))) = true
       ·rw [if_pos c7] at H
        have c7b0 : (!((((rd_T47 l0 x5_1).f0).toList) == (((rd_T47 l1 x5_1).f0).toList)) || (!(((rd_T47 l0 x5_1).f1) == ((rd_T47 l1 x5_1).f1)) || (!((((rd_T47 l0 x5_1).f2).toList) == (((rd_T47 l1 x5_1).f2).toList))))) = true := c7
        clear c7
        obtain rfl := Option.some.inj H
        have p171 : 0 ≤ (x5_1 : Int) := of_decide_eq_true (by first | (with_reducible assumption) | assumption)
        have q171 : x5_1 < (l0.length : Int) := of_decide_eq_true (by first | (with_reducible assumption) | assumption)
        obtain ⟨ad171, e171, hx171_0, hx171_1, hx171_2⟩ := at_T47 HR0.out x5_1 p171 q171
        cases e171
        replace p171 := eq_true p171
        replace q171 := eq_true q171
        have p172 : 0 ≤ (x5_1 : Int) := of_decide_eq_true (by first | (with_reducible assumption) | assumption)
        have q172 : x5_1 < (l1.length : Int) := of_decide_eq_true (by first | (with_reducible assumption) | assumption)
        obtain ⟨ad172, e172, hx172_0, hx172_1, hx172_2⟩ := at_T47 HR1.out x5_1 p172 q172
        cases e172
        replace p172 := eq_true p172
        replace q172 := eq_true q172
        go_wp2
        repeat (go_quiet (fail); try go_wp2)
        go_ret
        exact ⟨by first | rfl | (simp; done) | (simp [*]; done), by repeat (first | exact Drawn0.refl _ | apply Drawn0.step)⟩
       ·rw [if_neg c7] at H
        have c7b0 : (!((((rd_T47 l0 x5_1).f0).toList) == (((rd_T47 l1 x5_1).f0).toList)) || (!(((rd_T47 l0 x5_1).f1) == ((rd_T47 l1 x5_1).f1)) || (!((((rd_T47 l0 x5_1).f2).toList) == (((rd_T47 l1 x5_1).f2).toList))))) = false := by simpa using c7
        clear c7
        have H' := Aside0.mk H
        clear H
        have p171 : 0 ≤ (x5_1 : Int) := of_decide_eq_true (by first | (with_reducible assumption) | assumption)
        have q171 : x5_1 < (l0.length : Int) := of_decide_eq_true (by first | (with_reducible assumption) | assumption)
        obtain ⟨ad171, e171, hx171_0, hx171_1, hx171_2⟩ := at_T47 HR0.out x5_1 p171 q171
        cases e171
        replace p171 := eq_true p171
        replace q171 := eq_true q171
        have p172 : 0 ≤ (x5_1 : Int) := of_decide_eq_true (by first | (with_reducible assumption) | assumption)
        have q172 : x5_1 < (l1.length : Int) := of_decide_eq_true (by first | (with_reducible assumption) | assumption)
        obtain ⟨ad172, e172, hx172_0, hx172_1, hx172_2⟩ := at_T47 HR1.out x5_1 p172 q172
        cases e172
        replace p172 := eq_true p172
        replace q172 := eq_true q172
        go_wp2
        repeat (go_quiet (fail); try go_wp2)
        go_roundg k1
        case measure => have := HK1.out; omega
        case rel => exact ⟨(wrap64 (x5_1 + 1)), (by first | rfl | (simp; done) | (simp [*]; done) | exact congrArg Value.bool (nil_ne _) | exact congrArg Value.bool (nil_eq _) | exact congrArg Value.bool (nil_ne' _)), H', ⟨by have := HK1.out; omega⟩, by repeat (first | exact Drawn0.refl _ | apply Drawn0.step)⟩
      ·rw [if_neg c6] at H
       exact absurd H (by simp)
     ·rw [if_neg c5] at H
      exact absurd H (by simp)
    ·rw [if_neg c4] at H
     have c4b0 : decide (x5_1 < (l0.length : Int)) = false := decide_eq_false c4
     clear c4
     obtain rfl := Option.some.inj H
     go_wp2
     repeat (go_quiet (fail); try go_wp2)
     go_ret
     exact ⟨by first | rfl | (simp; done) | (simp [*]; done), by repeat (first | exact Drawn0.refl _ | apply Drawn0.step)⟩
 ·rw [if_neg c3] at H
  have c3b0 : ((l0.length : Int) == (l1.length : Int)) = false := beq_eq_false_iff_ne.mpr c3
  have c3b1 : ((l0.length : Int) != (l1.length : Int)) = true := bne_iff_ne.mpr c3
  have c3b2 : (l0.length == l1.length) = false := by first | simpa using c3 | (simp at c3 ⊢; omega)
  obtain rfl := Option.some.inj H
  go_enter Tryz.func23, Tryz.ntmps23
  go_wp2
  repeat (go_quiet (fail); try go_wp2)
  go_ret
  exact ⟨by first | rfl | (simp; done) | (simp [*]; done), by repeat (first | exact Drawn0.refl _ | apply Drawn0.step)⟩
end Go.Proofs.YtdijnmcfpbceaaaGreatDoor.P

namespace Go.Proofs.YtdijnmcfpbceaaaGreatDoor.P
open Go.Proofs.YtdijnmcfpbceaaaGreatDoor.X
open Go.RowKit Go.Proofs.YtdijnmcfpbceaaaGreatDoorW.PrintWords Go.Proofs.YtdijnmcfpbceaaaGreatDoorW.PrintLast Go.Proofs.YtdijnmcfpbceaaaGreatDoorW.PrintMore
attribute [local go_sem] qAr qAu
set_option linter.unusedVariables false
set_option linter.unusedSimpArgs false
def hogsheadlaw0_SameTexts.l0 : Nat → List ByteArray → List ByteArray → Int → Option (Bool)
 | 0, _, _, _ => none
 | k + 1, x0, x1, x5 => if x5 < (x0.length : Int) then (if 0 ≤ x5 then (if x5 < (x1.length : Int) then (if (rdOf ByteArray.empty x0 x5).toList = (rdOf ByteArray.empty x1 x5).toList then (hogsheadlaw0_SameTexts.l0 k x0 x1 (wrap64 (x5 + 1))) else (some false)) else (none)) else (none)) else (some true)
def hogsheadlaw0_SameTexts.f (k : Nat) (l0 : List ByteArray) (l1 : List ByteArray) : Option (Bool) := if (l0.length : Int) = (l1.length : Int) then (hogsheadlaw0_SameTexts.l0 k l0 l1 0) else (some false)
set_option maxHeartbeats 8000000 in
set_option maxRecDepth 100000 in
theorem hogsheadlaw0_SameTexts.calls (k : Nat) (A0 : Option Addr) (c0 : Nat) (l0 : List ByteArray) (A1 : Option Addr) (c1 : Nat) (l1 : List ByteArray) (r : Bool) (w : World) (hr0 : Kd.C Kd.string w A0 l0.length l0) (hc0 : l0.length ≤ c0) (hr1 : Kd.C Kd.string w A1 l1.length l1) (hc1 : l1.length ≤ c1) (h : hogsheadlaw0_SameTexts.f k l0 l1 = some r) :
  Calls Tryz.prog 37 #[.slice A0 l0.length c0, .slice A1 l1.length c1] w fun e w' => e = .returned (.bool r) ∧ Drawn0 w w' := by
 have HR0 := Aside0.mk hr0
 have HC0 := Aside0.mk hc0
 clear hr0 hc0
 have HR1 := Aside0.mk hr1
 have HC1 := Aside0.mk hc1
 clear hr1 hc1
 have H : (if (l0.length : Int) = (l1.length : Int) then (hogsheadlaw0_SameTexts.l0 k l0 l1 0) else (some false)) = some r := h
 clear h
 by_cases c3 : (l0.length : Int) = (l1.length : Int)
 ·rw [if_pos c3] at H
  have c3b0 : ((l0.length : Int) == (l1.length : Int)) = true := beq_iff_eq.mpr c3
  have c3b1 : ((l0.length : Int) != (l1.length : Int)) = false := bne_eq_false_iff_eq.mpr c3
  have c3b2 : (l0.length == l1.length) = true := by first | simpa using c3 | (simp at c3 ⊢; omega)
  clear c3
  have H' := Aside0.mk H
  clear H
  go_enter Tryz.func37, Tryz.ntmps37
  go_wp2
  repeat (go_quiet (fail); try go_wp2)
  go_loopg [5] k (fun kq v5 w' => ∃ (x5_1 : Int), v5 = .int .i64 x5_1 ∧ Aside0 (hogsheadlaw0_SameTexts.l0 kq l0 l1 x5_1 = some r) ∧ Aside0 (kq ≤ k) ∧ Drawn0 w w')
  case atStart => exact ⟨(0), (by first | rfl | (simp; done) | (simp [*]; done) | exact congrArg Value.bool (nil_ne _) | exact congrArg Value.bool (nil_eq _) | exact congrArg Value.bool (nil_ne' _)), H', ⟨Nat.le_refl _⟩, by repeat (first | exact Drawn0.refl _ | apply Drawn0.step)⟩
  case round =>
   clear H'
   try clear c1
   try clear p2
   try clear c3
   try clear c3b0
   try clear c3b1
   try clear c3b2
   obtain ⟨x5_1, rfl, HA, HK1, ⟨m1, rfl⟩⟩ := hrel
   cases gk with
   | zero => exact absurd HA.out (by simp [hogsheadlaw0_SameTexts.l0])
   | succ k1 =>
    have H := HA.out
    clear HA
    simp only [hogsheadlaw0_SameTexts.l0] at H
    by_cases c4 : x5_1 < (l0.length : Int)
    ·rw [if_pos c4] at H
     have c4b0 : decide (x5_1 < (l0.length : Int)) = true := decide_eq_true c4
     clear c4
     by_cases c5 : 0 ≤ x5_1
     ·rw [if_pos c5] at H
      have c5b0 : decide (0 ≤ x5_1) = true := decide_eq_true c5
      clear c5
      by_cases c6 : x5_1 < (l1.length : Int)
      ·rw [if_pos c6] at H
       have c6b0 : decide (x5_1 < (l1.length : Int)) = true := decide_eq_true c6
       clear c6
       by_cases c7 : (rdOf ByteArray.empty l0 x5_1).toList = (rdOf ByteArray.empty l1 x5_1).toList
       ·rw [if_pos c7] at H
        have c7b0 : ((rdOf ByteArray.empty l0 x5_1).toList == (rdOf ByteArray.empty l1 x5_1).toList) = true := beq_iff_eq.mpr c7
        have c7b1 : ((rdOf ByteArray.empty l0 x5_1).toList != (rdOf ByteArray.empty l1 x5_1).toList) = false := bne_eq_false_iff_eq.mpr c7
        clear c7
        have H' := Aside0.mk H
        clear H
        have p173 : 0 ≤ (x5_1 : Int) := of_decide_eq_true (by first | (with_reducible assumption) | assumption)
        have q173 : x5_1 < (l0.length : Int) := of_decide_eq_true (by first | (with_reducible assumption) | assumption)
        obtain ⟨ad173, e173, hx173_0⟩ := Kd.at_string HR0.out x5_1 p173 q173
        cases e173
        replace p173 := eq_true p173
        replace q173 := eq_true q173
        have p174 : 0 ≤ (x5_1 : Int) := of_decide_eq_true (by first | (with_reducible assumption) | assumption)
        have q174 : x5_1 < (l1.length : Int) := of_decide_eq_true (by first | (with_reducible assumption) | assumption)
        obtain ⟨ad174, e174, hx174_0⟩ := Kd.at_string HR1.out x5_1 p174 q174
        cases e174
        replace p174 := eq_true p174
        replace q174 := eq_true q174
        go_wp2
        repeat (go_quiet (fail); try go_wp2)
        go_roundg k1
        case measure => have := HK1.out; omega
        case rel => exact ⟨(wrap64 (x5_1 + 1)), (by first | rfl | (simp; done) | (simp [*]; done) | exact congrArg Value.bool (nil_ne _) | exact congrArg Value.bool (nil_eq _) | exact congrArg Value.bool (nil_ne' _)), H', ⟨by have := HK1.out; omega⟩, by repeat (first | exact Drawn0.refl _ | apply Drawn0.step)⟩
       ·rw [if_neg c7] at H
        have c7b0 : ((rdOf ByteArray.empty l0 x5_1).toList == (rdOf ByteArray.empty l1 x5_1).toList) = false := beq_eq_false_iff_ne.mpr c7
        have c7b1 : ((rdOf ByteArray.empty l0 x5_1).toList != (rdOf ByteArray.empty l1 x5_1).toList) = true := bne_iff_ne.mpr c7
        obtain rfl := Option.some.inj H
        have p173 : 0 ≤ (x5_1 : Int) := of_decide_eq_true (by first | (with_reducible assumption) | assumption)
        have q173 : x5_1 < (l0.length : Int) := of_decide_eq_true (by first | (with_reducible assumption) | assumption)
        obtain ⟨ad173, e173, hx173_0⟩ := Kd.at_string HR0.out x5_1 p173 q173
        cases e173
        replace p173 := eq_true p173
        replace q173 := eq_true q173
        have p174 : 0 ≤ (x5_1 : Int) := of_decide_eq_true (by first | (with_reducible assumption) | assumption)
        have q174 : x5_1 < (l1.length : Int) := of_decide_eq_true (by first | (with_reducible assumption) | assumption)
        obtain ⟨ad174, e174, hx174_0⟩ := Kd.at_string HR1.out x5_1 p174 q174
        cases e174
        replace p174 := eq_true p174
        replace q174 := eq_true q174
        go_wp2
        repeat (go_quiet (fail); try go_wp2)
        go_ret
        exact ⟨by first | rfl | (simp; done) | (simp [*]; done), by repeat (first | exact Drawn0.refl _ | apply Drawn0.step)⟩
      ·rw [if_neg c6] at H
       exact absurd H (by simp)
     ·rw [if_neg c5] at H
      exact absurd H (by simp)
    ·rw [if_neg c4] at H
     have c4b0 : decide (x5_1 < (l0.length : Int)) = false := decide_eq_false c4
     clear c4
     obtain rfl := Option.some.inj H
     go_wp2
     repeat (go_quiet (fail); try go_wp2)
     go_ret
     exact ⟨by first | rfl | (simp; done) | (simp [*]; done), by repeat (first | exact Drawn0.refl _ | apply Drawn0.step)⟩
 ·rw [if_neg c3] at H
  have c3b0 : ((l0.length : Int) == (l1.length : Int)) = false := beq_eq_false_iff_ne.mpr c3
  have c3b1 : ((l0.length : Int) != (l1.length : Int)) = true := bne_iff_ne.mpr c3
  have c3b2 : (l0.length == l1.length) = false := by first | simpa using c3 | (simp at c3 ⊢; omega)
  obtain rfl := Option.some.inj H
  go_enter Tryz.func37, Tryz.ntmps37
  go_wp2
  repeat (go_quiet (fail); try go_wp2)
  go_ret
  exact ⟨by first | rfl | (simp; done) | (simp [*]; done), by repeat (first | exact Drawn0.refl _ | apply Drawn0.step)⟩
end Go.Proofs.YtdijnmcfpbceaaaGreatDoor.P

namespace Go.Proofs.YtdijnmcfpbceaaaGreatDoor.X
open Go.RowKit Go.Proofs.YtdijnmcfpbceaaaGreatDoorW.PrintWords Go.Proofs.YtdijnmcfpbceaaaGreatDoorW.PrintLast Go.Proofs.YtdijnmcfpbceaaaGreatDoorW.PrintMore Go.Proofs.YtdijnmcfpbceaaaGreatDoor.P
set_option linter.unusedVariables false
set_option linter.unusedSimpArgs false
theorem toList_inj {a b : ByteArray} : a.toList = b.toList ↔ a = b := ⟨fun h => by
  rw [ByteArray.toList_eq, ByteArray.toList_eq] at h
  exact qAv h, fun h => by rw [h]⟩
def neN (x y : S47) : Bool := (!((x.f0.toList) == (y.f0.toList)) || (!((x.f1) == (y.f1)) || (!((x.f2.toList) == (y.f2.toList)))))
theorem qIe (x y : S47) : neN x y = true ↔ x ≠ y := by
  unfold neN
  obtain ⟨a, b, c⟩ := x
  obtain ⟨d, e, f⟩ := y
  dsimp only
  rw [Bool.or_eq_true, Bool.or_eq_true, Bool.not_eq_true', Bool.not_eq_true', Bool.not_eq_true', beq_eq_false_iff_ne, beq_eq_false_iff_ne, beq_eq_false_iff_ne]
  constructor
  · intro h e1
    injection e1 with h1 h2 h3
    rcases h with h | h | h
    · exact h (by rw [h1])
    · exact h h2
    · exact h (by rw [h3])
  · intro h
    refine Classical.byContradiction fun hn => h ?_
    have h1 : a = d := Classical.byContradiction fun x => hn (.inl fun y => x (toList_inj.1 y))
    have h2 : b = e := Classical.byContradiction fun x => hn (.inr (.inl x))
    have h3 : c = f := Classical.byContradiction fun x => hn (.inr (.inr fun y => x (toList_inj.1 y)))
    rw [h1, h2, h3]
theorem qFk (a b : List S47) (hl : a.length = b.length) (hn : a.length ≤ 9223372036854775807) : ∀ (d i : Nat), a.length - i = d → i ≤ a.length → ∃ r, (r = true ↔ a.drop i = b.drop i) ∧ Ev (fun k => hogsheadlaw0_SameNodes.l0 k a b (i : Int)) r := by
  intro d
  induction d with
  | zero =>
    intro i hd hi
    refine ⟨true, ⟨fun _ => by rw [List.drop_eq_nil_of_le (by omega), List.drop_eq_nil_of_le (by omega)], fun _ => rfl⟩, 1, fun k hk => ?_⟩
    obtain ⟨k, rfl⟩ : ∃ m, k = m + 1 := ⟨k - 1, by omega⟩
    simp only [hogsheadlaw0_SameNodes.l0]
    rw [if_neg (by omega)]
  | succ d ih =>
    intro i hd hi
    have hlt : i < a.length := by omega
    have hlt2 : i < b.length := by omega
    obtain ⟨r, hr, K, hK⟩ := ih (i + 1) (by omega) (by omega)
    have ea := qCw a i hlt
    have eb := qCw b i hlt2
    by_cases e : a[i] = b[i]
    · refine ⟨r, ?_, K + 1, fun k hk => ?_⟩
      · rw [hr, List.drop_eq_getElem_cons hlt, List.drop_eq_getElem_cons hlt2, List.cons.injEq]
        exact ⟨fun h => ⟨e, h⟩, fun h => h.2⟩
      · obtain ⟨k, rfl⟩ : ∃ m, k = m + 1 := ⟨k - 1, by omega⟩
        have hne : ¬ neN a[i] b[i] = true := fun h => (qIe _ _).1 h e
        simp only [hogsheadlaw0_SameNodes.l0]
        rw [if_pos (by omega), if_pos (by omega), if_pos (by omega), ea, eb, if_neg (by exact hne), wrap_i i a.length hlt hn]
        exact hK k (by omega)
    · refine ⟨false, ⟨fun h => (by cases h), fun h => ?_⟩, 1, fun k hk => ?_⟩
      · rw [List.drop_eq_getElem_cons hlt, List.drop_eq_getElem_cons hlt2, List.cons.injEq] at h
        exact absurd h.1 e
      · obtain ⟨k, rfl⟩ : ∃ m, k = m + 1 := ⟨k - 1, by omega⟩
        have hne : neN a[i] b[i] = true := (qIe _ _).2 e
        simp only [hogsheadlaw0_SameNodes.l0]
        rw [if_pos (by omega), if_pos (by omega), if_pos (by omega), ea, eb, if_pos (by exact hne)]
theorem qCk (A0 : Option Addr) (c0 : Nat) (a : List S47) (A1 : Option Addr) (c1 : Nat) (b : List S47) (w : World) (hr0 : Kd.C k47 w A0 a.length a) (hc0 : a.length ≤ c0) (hr1 : Kd.C k47 w A1 b.length b) (hc1 : b.length ≤ c1) :
    Calls Tryz.prog 23 #[.slice A0 a.length c0, .slice A1 b.length c1] w fun e w' => ∃ r, e = .returned (.bool r) ∧ (r = true ↔ a = b) ∧ Below w.heap.size w w' := by
  have hn : a.length ≤ 9223372036854775807 := hr0.2.1
  obtain ⟨r, hr, K, hK⟩ : ∃ r, (r = true ↔ a = b) ∧ Ev (fun k => hogsheadlaw0_SameNodes.f k a b) r := by
    by_cases h : a.length = b.length
    · obtain ⟨r, hr, K, hK⟩ := qFk a b h hn a.length 0 (by omega) (by omega)
      refine ⟨r, by simpa using hr, K, fun k hk => ?_⟩
      show hogsheadlaw0_SameNodes.f k a b = _
      unfold hogsheadlaw0_SameNodes.f
      rw [if_pos (by omega)]
      exact hK k hk
    · refine ⟨false, ⟨fun h => (by cases h), fun e => absurd (by rw [e]) h⟩, 0, fun k hk => ?_⟩
      show hogsheadlaw0_SameNodes.f k a b = _
      unfold hogsheadlaw0_SameNodes.f
      rw [if_neg (by omega)]
  exact (hogsheadlaw0_SameNodes.calls K A0 c0 a A1 c1 b r w hr0 hc0 hr1 hc1 (hK K (Nat.le_refl _))).mono fun e w' ⟨h1, h2⟩ => ⟨r, h1, hr, h2.below⟩
theorem qE7 (A0 : Option Addr) (c0 : Nat) (A1 : Option Addr) (c1 : Nat) (s : ByteArray) (w : World) (hr0 : Kd.C Kd.string w A0 1 [s]) (hc0 : 1 ≤ c0) (hr1 : Kd.C Kd.string w A1 1 [s]) (hc1 : 1 ≤ c1) :
    Calls Tryz.prog 37 #[.slice A0 1 c0, .slice A1 1 c1] w fun e w' => e = .returned (.bool true) ∧ Below w.heap.size w w' := by
  have h : hogsheadlaw0_SameTexts.f 2 [s] [s] = some true := by
    unfold hogsheadlaw0_SameTexts.f
    rw [if_pos rfl]
    unfold hogsheadlaw0_SameTexts.l0
    rw [if_pos (by simp), if_pos (by decide), if_pos (by simp), if_pos rfl]
    unfold hogsheadlaw0_SameTexts.l0
    rw [if_neg (by rw [show wrap64 (0 + 1) = 1 from by unfold wrap64; omega]; simp)]
  exact (hogsheadlaw0_SameTexts.calls 2 A0 c0 [s] A1 c1 [s] true w hr0 hc0 hr1 hc1 h).mono fun e w' ⟨h1, h2⟩ => ⟨h1, h2.below⟩
set_option maxHeartbeats 4000000 in
set_option maxRecDepth 100000 in
theorem qGn (A : Option Addr) (c : Nat) (bs : List Int) (w : World) (hT : Aside0 (Tabs w)) (hE : Aside0 (ErrV w)) (hC : (Kd.int .u8).C w A bs.length bs) (hc : bs.length ≤ c) (hl : bs.length ≤ 1000000) (hby : Bytes bs) :
    Calls Tryz.prog 22 #[.slice A bs.length c] w fun e w' => ∃ v, e = .returned (.tuple #[v, .int .i64 (untR bs).2]) ∧ w'.ownsRow w.heap.size 9 1 v (untR bs).1.length (((untR bs).1.map fun n => n.f0).map Value.string) ∧ Below w.heap.size w w' := by
  have HS := Aside0.mk (show (untR bs).1.length ≤ 400 from by
    rcases qC0 bs with e | ⟨t, e, ht, _⟩
    · rw [e]
      exact Nat.zero_le _
    · rw [e]
      exact (qBi ht).2)
  obtain ⟨R, hR⟩ : ∃ R, untR bs = R := ⟨_, rfl⟩
  have HU := Aside0.mk (qBg A c bs w hT hE hC hc hl hby)
  rw [hR] at HU HS ⊢
  clear hR
  obtain ⟨t, code⟩ := R
  dsimp only at HU HS ⊢
  go_enter Tryz.func22, Tryz.ntmps22
  go_wp2_with fail
  refine HU.out.mono ?_
  rintro e w1 ⟨v, rfl, ho, hb⟩
  have hts := HS.out
  obtain ⟨A1, c1, rfl, hc1, hC1⟩ := qBv ho
  have HB1 := Aside0.mk hb
  have HC1 := Aside0.mk hC1
  clear ho hb hC1
  go_wp2_with fail
  go_loopw [6, 16] (fun v6 v16 wr => ∃ (i : Nat) (v : Value), v6 = v ∧ v16 = .int .i64 i ∧ i ≤ t.length ∧ Aside0 (wr.ownsRow w1.heap.size 9 1 v ((t.take i).map fun n => n.f0).length (encs Value.string ((t.take i).map fun n => n.f0))) ∧ Aside0 (Below w1.heap.size w1 wr)) (fun _ b _ => t.length - (intOf b).toNat)
  case atStart => exact ⟨0, _, rfl, rfl, by omega, ⟨⟨rfl, .inl ⟨rfl, rfl⟩⟩⟩, ⟨Below.refl _ _⟩⟩
  case round =>
    obtain ⟨i, v, hv6, rfl, hi, HO, HBb⟩ := hrel
    subst hv6
    obtain ⟨A6, c6, rfl⟩ := qBw HO.out
    by_cases hil : i < t.length
    · have hic : decide ((i : Int) < (t.length : Int)) = true := decide_eq_true (by omega)
      have hi0 : 0 ≤ (i : Int) := by omega
      obtain ⟨ad, rfl, z0, z1, z2⟩ := at_T47 (Kd.C_below HC1.out HBb.out) (i : Int) (by omega) (by omega)
      simp only [Int.toNat_natCast] at z0 z1 z2
      have HX := Aside0.mk (qCw t i hil)
      generalize rd_T47 t (i : Int) = x at *
      have HBn := Aside0.mk (qAb (Below.refl wr.heap.size wr) (.cells #[.string x.f0, .int .i64 x.f1, .string x.f2] 47))
      have HOn := Aside0.mk (ownG HO.out HBn.out)
      have HBb2 := Aside0.mk (qAe HBb.out HBn.out)
      have hml : ((t.take i).map fun n => n.f0).length = i := by rw [List.length_map, List.length_take]; omega
      have HMs := Aside0.mk (show ((t.take i).map fun n => n.f0) ++ [x.f0] = (t.take (i + 1)).map fun n => n.f0 from by
        rw [List.take_succ_eq_append_getElem hil, List.map_append, HX.out]
        rfl)
      generalize hts : ((t.take i).map fun n => n.f0) = ts at *
      clear hts
      go_wp2_with (at_builtin; refine qEe (w0 := w1) Value.string w1.heap.size rfl (.tmp 20) (.tmp 23) 43 9 (.string ⟨#[]⟩) 16 rfl Tryz.underlying43 (by kernel_rfl) rfl (by decide) (.slice A6 ts.length c6) ts x.f0 rfl (by show Value.slice (some ⟨wr.heap.size + 1, 0, none⟩) 1 1 = _; rw [show (wr.alloc (.cells #[.string x.f0, .int .i64 x.f1, .string x.f2] 47)).heap.size = wr.heap.size + 1 from by simp [World.alloc, -World.alloc_eq]]) rfl HOn.out HBb2.out HBb2.out.size (by omega) ?_; intro v4 w4 ho4 hb4 hg4 _; have HO4 := Aside0.mk ho4; have HB4 := Aside0.mk hb4; have HG4 := Aside0.mk hg4; clear ho4 hb4 hg4)
      have hml2 : ((t.take (i + 1)).map fun n => n.f0).length = i + 1 := by rw [List.length_map, List.length_take]; omega
      rw [HMs.out] at HO4
      exact ⟨⟨i + 1, v4, rfl, by simp, by omega, HO4, HB4⟩, by simp only [intOf]; omega⟩
    · have hic : decide ((i : Int) < (t.length : Int)) = false := decide_eq_false (by omega)
      have hie : i = t.length := by omega
      subst hie
      rw [List.take_length, List.length_map] at HO ⊢
      have HF := Aside0.mk (show wr.ownsRow w1.heap.size 9 1 (.slice A6 t.length c6) t.length ((t.map fun n => n.f0).map Value.string) from by
        exact HO.out)
      clear HO
      go_wp2_with fail
      go_ret2
      exact ⟨_, rfl, qDj HF.out HB1.out.size, qAe HB1.out HBb.out⟩
end Go.Proofs.YtdijnmcfpbceaaaGreatDoor.X

namespace Go.Proofs.YtdijnmcfpbceaaaGreatDoor.X
open Go.RowKit Go.Proofs.YtdijnmcfpbceaaaGreatDoorW.PrintWords Go.Proofs.YtdijnmcfpbceaaaGreatDoorW.PrintLast Go.Proofs.YtdijnmcfpbceaaaGreatDoorW.PrintMore Go.Proofs.YtdijnmcfpbceaaaGreatDoor.P
set_option linter.unusedVariables false
set_option linter.unusedSimpArgs false
def nodeD : S47 := ⟨⟨#[]⟩, 1, ⟨#[]⟩⟩
theorem treeD : treeB [nodeD] = true := by decide
def dotD : ByteArray := ⟨#[46]⟩
theorem nameD : nameN nodeD = dotD := rfl
theorem extraD : extraN nodeD = ⟨#[]⟩ := by
  unfold extraN
  rw [if_neg (by decide), if_neg (by decide)]
  exact qB3 _
theorem cutD : cutS dotD = dotD := by
  unfold cutS
  apply qAv
  rfl
theorem entsD : entsT [nodeD] = [⟨dotD, 1, ⟨#[]⟩, ⟨#[]⟩⟩] := by
  unfold entsT entsN
  simp only [List.flatMap_cons, List.flatMap_nil, List.append_nil]
  rw [extraD]
  rw [if_pos (show (⟨#[]⟩ : ByteArray).size = 0 from rfl)]
  unfold ownE
  rw [if_neg (by decide), nameD, cutD]
  rfl
theorem tarD : tarB [nodeD] = layB dotD 1 0 ⟨#[]⟩ ++ List.replicate 1024 0 := by
  unfold tarB
  rw [entsD]
  have h : entryB ⟨dotD, 1, ⟨#[]⟩, ⟨#[]⟩⟩ = layB dotD 1 0 ⟨#[]⟩ := by
    unfold entryB
    have h1 : layR dotD 1 0 ⟨#[]⟩ = (layB dotD 1 0 ⟨#[]⟩, true) := by
      unfold layR
      rw [if_pos ⟨by decide, by omega, by omega⟩]
      rfl
    have h2 : (((⟨#[]⟩ : ByteArray).size : Nat) : Int) = 0 := rfl
    have h3 : bytesOf (⟨#[]⟩ : ByteArray) = [] := rfl
    have h4 : padN (⟨#[]⟩ : ByteArray).size = 0 := rfl
    simp only [h2, h1, h3, h4, List.replicate_zero, List.append_nil]
  simp only [List.flatMap_cons, List.flatMap_nil, List.append_nil]
  rw [h]
theorem qGf : (tarB [nodeD]).length = 1536 := by
  rw [tarD, List.length_append, qBy _ _ _ _ (by decide) (by decide), List.length_replicate]
theorem singG {α : Type} {d : Kd α} {w : World} {g t : Nat} {cs : List Value} {x : α} (h : w.heap[g]? = some (.cells cs.toArray t (0, 0))) (hK : d.K w x cs) : d.C w (some ⟨g, 0, none⟩) 1 [x] := by
  refine ⟨rfl, by omega, fun _ => ⟨⟨g, 0, none⟩, rfl, fun j p hj => ?_⟩⟩
  cases j with
  | zero =>
    cases hj
    refine ⟨cs, d.K_len hK, hK, fun i u hu => ?_⟩
    rw [Nat.zero_mul, Nat.zero_add]
    exact newsG h _ rfl i u hu
  | succ j => simp at hj
end Go.Proofs.YtdijnmcfpbceaaaGreatDoor.X

namespace Go.Proofs.YtdijnmcfpbceaaaGreatDoor.X
open Go.RowKit Go.Proofs.YtdijnmcfpbceaaaGreatDoorW.PrintWords Go.Proofs.YtdijnmcfpbceaaaGreatDoorW.PrintLast Go.Proofs.YtdijnmcfpbceaaaGreatDoorW.PrintMore Go.Proofs.YtdijnmcfpbceaaaGreatDoor.P
set_option linter.unusedVariables false
set_option linter.unusedSimpArgs false
theorem qH3 : untR (List.replicate 1024 0) = ([], 5) := by
  rcases qC0 (List.replicate 1024 0) with e | ⟨t, e, ht, hb⟩
  · exact e
  · exfalso
    have h1 := (qI1 ht).1
    rw [hb, List.length_replicate] at h1
    have h2 : 1 ≤ sumH t := by
      cases t with
      | nil => exact absurd ht (by decide)
      | cons n l => unfold sumH headN; rw [List.map_cons, List.sum_cons]; omega
    omega
theorem own_C {w : World} {base e : Nat} {A : Option Addr} {n c : Nat} {xs : List Int} (h : w.ownsRow base e 1 (.slice A n c) n (nums .u8 xs)) (hn : n = xs.length) : (Kd.int .u8).C w A n xs ∧ n ≤ c := by
  subst hn
  have hcap := qDk h
  obtain ⟨A', c', e1, h1⟩ := qBx h
  cases e1
  exact ⟨Kd.C_of_reads (d := (0 : Int)) (h1 := fun _ => rfl) h1, hcap⟩
theorem own_S1 {w : World} {base e : Nat} {v : Value} {s : ByteArray} (h : w.ownsRow base e 1 v 1 [Value.string s]) : ∃ A c, v = .slice A 1 c ∧ Kd.string.C w A 1 [s] ∧ 1 ≤ c := by
  obtain ⟨A, c, rfl, hr⟩ := qCb (R := fun p c => Kd.string.K w p c) h (Reps.one (show Kd.string.K w s [.string s] from rfl) (Reps.none _ _)) rfl
  exact ⟨A, c, rfl, hr, qDk h⟩
set_option maxHeartbeats 4000000 in
set_option maxRecDepth 100000 in
theorem qBt (w : World) (hT : Aside0 (Tabs w)) (hE : Aside0 (ErrV w)) :
    Calls Tryz.prog 18 #[] w fun e w' => e = .returned (.bool true) ∧ Below w.heap.size w w' := by
  go_enter Tryz.func18, Tryz.ntmps18
  have HTR := Aside0.mk (show tarR [nodeD] = (tarB [nodeD], 0) from by unfold tarR; rw [if_pos treeD])
  have HTL := Aside0.mk qGf
  have HUb := Aside0.mk (qIz treeD)
  have HBy := Aside0.mk (qDg [nodeD])
  go_wp2_with fail
  refine (qBn (some ⟨w.heap.size, 0, none⟩) 1 [nodeD] _ ⟨Tabs.below hT.out (qAb (Below.refl _ _) _)⟩ (singG (qA7 w _) (k47_mk _ nodeD)) (Nat.le_refl 1) (by simp)).mono ?_
  rintro e w1 ⟨v, rfl, ho, hb⟩
  have HB := Aside0.mk (qAe (qAb (Below.refl w.heap.size w) (.cells #[.string ⟨#[]⟩, .int .i64 1, .string ⟨#[]⟩] 47)) hb)
  rw [HTR.out] at ho
  rw [HTR.out]
  generalize tarB [nodeD] = bs at *
  obtain ⟨A, c, rfl, hR⟩ := qBx ho
  have hcap := qDk ho
  have HC := Aside0.mk (show (Kd.int .u8).C w1 A bs.length bs from Kd.C_of_reads (d := (0 : Int)) (h1 := fun _ => rfl) hR)
  have hbl : bs.length ≤ 1000000 := by have := HTL.out; omega
  clear hb ho hR HTR
  go_wp2_with fail
  refine (qBg A c bs w1 ⟨Tabs.below hT.out HB.out⟩ ⟨hE.out.below HB.out⟩ HC.out hcap hbl HBy.out).mono ?_
  rintro e w2 ⟨v2, rfl, ho2, hb2⟩
  rw [HUb.out] at ho2
  rw [HUb.out]
  obtain ⟨A2, c2, rfl, hc2, hC2⟩ := qBv ho2
  have HB2 := Aside0.mk (qAe HB.out hb2)
  have HC2 := Aside0.mk hC2
  have HCb := Aside0.mk (Kd.C_below HC.out hb2)
  clear ho2 hb2 hC2 HC
  have hmk := show ∀ W : World, (Instr.makeSlice 26 (.int .i64 1024) (.int .i64 1024)).run Tryz.prog W = .ok (.slice (some ⟨W.heap.size, 0, none⟩) 1024 1024) (W.alloc (.cells (madeCells #[.int .u8 0] 1024) 5)) from fun W => qHh (P := Tryz.prog) 26 5 .u8 1 Tryz.underlying26 (by kernel_rfl) (by decide) 1024 (by decide) W
  have HOm := Aside0.mk (qI7 w2 w2.heap.size 5 .u8 1024 (Nat.le_refl _) (by decide))
  have HBm := Aside0.mk (qAb (Below.refl w2.heap.size w2) (.cells (madeCells #[.int .u8 0] 1024) 5))
  go_wp2_with fail
  clear hmk
  obtain ⟨hCz, hcz⟩ := own_C HOm.out (by simp)
  have HB3 := Aside0.mk (qAe HB2.out HBm.out)
  have HC3 := Aside0.mk (Kd.C_below HC2.out HBm.out)
  have HCb3 := Aside0.mk (Kd.C_below HCb.out HBm.out)
  have HUz := Aside0.mk (qBg (some ⟨w2.heap.size, 0, none⟩) 1024 (List.replicate 1024 0) _ ⟨Tabs.below hT.out HB3.out⟩ ⟨hE.out.below HB3.out⟩ (by rw [List.length_replicate]; exact hCz) (by rw [List.length_replicate]; exact Nat.le_refl _) (by rw [List.length_replicate]; decide) (qDc _))
  rw [List.length_replicate, qH3] at HUz
  generalize w2.alloc (.cells (madeCells #[.int .u8 0] 1024) 5) = w3 at *
  clear HOm HBm HC2 HCb hCz HB2
  refine HUz.out.mono ?_
  rintro e w4 ⟨v4, rfl, _, hb4⟩
  have HB4 := Aside0.mk (qAe HB3.out hb4)
  have HC4 := Aside0.mk (Kd.C_below HC3.out hb4)
  have HCb4 := Aside0.mk (Kd.C_below HCb3.out hb4)
  clear HUz hb4 HB3 HC3 HCb3
  go_wp2_with fail
  refine (qGn A c bs w4 ⟨Tabs.below hT.out HB4.out⟩ ⟨hE.out.below HB4.out⟩ HCb4.out hcap hbl HBy.out).mono ?_
  rintro e w5 ⟨v5, rfl, ho5, hb5⟩
  rw [HUb.out] at ho5
  rw [HUb.out]
  obtain ⟨A5, c5, rfl, hC5, hc5⟩ := own_S1 (s := ⟨#[]⟩) ho5
  have HB5 := Aside0.mk (qAe HB4.out hb5)
  have HC5 := Aside0.mk (Kd.C_below HC4.out hb5)
  have HS5 := Aside0.mk hC5
  have h1536 : ((bs.length : Int) == 1536) = true := by rw [HTL.out]; rfl
  clear ho5 hb5 hC5 HB4 HC4 HCb4
  go_wp2_with fail
  have HBn := Aside0.mk (qAb (Below.refl w5.heap.size w5) (.cells #[.string ⟨#[]⟩, .int .i64 1, .string ⟨#[]⟩] 47))
  refine (qCk A2 c2 [nodeD] (some ⟨w5.heap.size, 0, none⟩) 1 [nodeD] _ (Kd.C_below HC5.out HBn.out) hc2 (singG (qA7 w5 _) (k47_mk _ nodeD)) (Nat.le_refl 1)).mono ?_
  rintro e w6 ⟨r, rfl, hr, hb6⟩
  obtain rfl : r = true := hr.2 rfl
  have HB6 := Aside0.mk (qAe (qAe HB5.out HBn.out) hb6)
  have HS6 := Aside0.mk (Kd.C_below (Kd.C_below HS5.out HBn.out) hb6)
  clear hr hb6 HBn HC5 HS5 HB5
  go_wp2_with fail
  have HBs := Aside0.mk (qAb (Below.refl w6.heap.size w6) (.cells #[.string ⟨#[]⟩] 9))
  refine (qE7 A5 c5 (some ⟨w6.heap.size, 0, none⟩) 1 ⟨#[]⟩ _ (Kd.C_below HS6.out HBs.out) hc5 (singG (d := Kd.string) (qA7 w6 _) rfl) (Nat.le_refl 1)).mono ?_
  rintro e w7 ⟨rfl, hb7⟩
  have HB7 := Aside0.mk (qAe (qAe HB6.out HBs.out) hb7)
  clear hb7 HBs HS6 HB6
  go_wp2_with fail
  go_ret
  exact ⟨rfl, HB7.out⟩
end Go.Proofs.YtdijnmcfpbceaaaGreatDoor.X

namespace Go.Proofs.YtdijnmcfpbceaaaGreatDoor.X
open Go.RowKit Go.Proofs.YtdijnmcfpbceaaaGreatDoorW.PrintWords Go.Proofs.YtdijnmcfpbceaaaGreatDoorW.PrintLast Go.Proofs.YtdijnmcfpbceaaaGreatDoorW.PrintMore Go.Proofs.YtdijnmcfpbceaaaGreatDoor.P
set_option linter.unusedVariables false
set_option linter.unusedSimpArgs false
def bigN (n : S47) : Bool := decide (300 < n.f0.size) || decide (500 < n.f2.size)
def greatN (t : List S47) (most : Nat) : Bool := decide (most < t.length) || t.any bigN
theorem qF3 {t : List S47} {m : Nat} (h : greatN t m = false) : t.length ≤ m ∧ ∀ n ∈ t, n.f0.size ≤ 300 ∧ n.f2.size ≤ 500 := by
  unfold greatN at h
  rw [Bool.or_eq_false_iff, decide_eq_false_iff_not, List.any_eq_false] at h
  refine ⟨by omega, fun n hn => ?_⟩
  have h1 := h.2 n hn
  unfold bigN at h1
  rw [Bool.or_eq_true, decide_eq_true_eq, decide_eq_true_eq] at h1
  omega
set_option maxHeartbeats 4000000 in
set_option maxRecDepth 100000 in
theorem qD2 (A0 : Option Addr) (c0 : Nat) (t : List S47) (m : Nat) (w : World) (hC : Kd.C k47 w A0 t.length t) (hc : t.length ≤ c0) (hm : m ≤ 100000) :
    Calls Tryz.prog 7 #[.slice A0 t.length c0, .int .i64 m] w fun e w' => e = .returned (.bool (greatN t m)) ∧ Below w.heap.size w w' := by
  have X := Aside0.mk hC
  have hmx : t.length ≤ 9223372036854775807 := hC.2.1
  clear hC
  go_enter Tryz.func7, Tryz.ntmps7
  obtain ⟨bm, hbm⟩ : ∃ b, decide (m < t.length) = b := ⟨_, rfl⟩
  have HBM := Aside0.mk hbm
  have hle : decide ((t.length : Int) ≤ (m : Int)) = !bm := by rw [← hbm, ← decide_not, decide_eq_decide]; omega
  have hgt : decide ((m : Int) < (t.length : Int)) = bm := by rw [← hbm, decide_eq_decide]; omega
  have hlen : decide (t.length ≤ m) = !bm := by rw [← hbm, ← decide_not, decide_eq_decide]; omega
  go_wp2_with fail
  go_loopw [5] (fun v5 wr => ∃ i : Nat, v5 = .int .i64 i ∧ i ≤ t.length ∧ Aside0 (wr = w) ∧ Aside0 (∀ n ∈ t.take i, bigN n = false)) (fun a _ => t.length - (intOf a).toNat)
  case atStart => exact ⟨0, rfl, by omega, ⟨rfl⟩, ⟨by intro n hn; cases hn⟩⟩
  case round =>
    obtain ⟨i, rfl, hi, HW, HA⟩ := hrel
    obtain rfl := HW.out
    by_cases hil : i < t.length
    · have hic : decide ((i : Int) < (t.length : Int)) = true := decide_eq_true (by omega)
      have hi0 : 0 ≤ (i : Int) := by omega
      cases bm with
      | true =>
        go_wp2_with fail
        go_ret
        exact ⟨by unfold greatN; rw [HBM.out]; rfl, Below.refl _ _⟩
      | false =>
        obtain ⟨ad, rfl, z0, z1, z2⟩ := at_T47 X.out (i : Int) (by omega) (by omega)
        simp only [Int.toNat_natCast] at z0 z1 z2
        have HX := Aside0.mk (qCw t i hil)
        have HN := Aside0.mk (show ∀ n ∈ t.take (i + 1), n ∈ t.take i ∨ n = rd_T47 t (i : Int) from fun n hn => by
          rw [List.take_succ_eq_append_getElem hil, List.mem_append, List.mem_singleton] at hn
          rw [HX.out]
          exact hn)
        have HM := Aside0.mk (show rd_T47 t (i : Int) ∈ t from by rw [HX.out]; exact List.getElem_mem _)
        generalize rd_T47 t (i : Int) = x at *
        obtain ⟨b0, hb0⟩ : ∃ b, decide ((300 : Int) < (x.f0.size : Int)) = b := ⟨_, rfl⟩
        obtain ⟨b2, hb2⟩ : ∃ b, decide ((500 : Int) < (x.f2.size : Int)) = b := ⟨_, rfl⟩
        have HG := Aside0.mk (show bigN x = (b0 || b2) from by
          unfold bigN
          rw [← hb0, ← hb2]
          congr 1 <;> (rw [decide_eq_decide]; omega))
        cases hbb : (b0 || b2) with
        | true =>
          have HF := Aside0.mk (show greatN t m = true from by
            unfold greatN
            rw [Bool.or_eq_true]
            refine .inr (List.any_eq_true.2 ⟨x, HM.out, ?_⟩)
            rw [HG.out, hbb])
          cases b0 <;> cases b2 <;> first
          | (cases hbb; done)
          | (go_wp2_with fail
             go_ret
             exact ⟨by rw [HF.out]; rfl, Below.refl _ _⟩)
        | false =>
          obtain rfl : b0 = false := by cases b0 <;> first | rfl | cases hbb
          obtain rfl : b2 = false := by cases b2 <;> first | rfl | cases hbb
          clear hbb
          go_wp2_with fail
          refine ⟨⟨i + 1, by simp, by omega, ⟨by trivial⟩, ⟨fun n hn => ?_⟩⟩, by simp only [intOf]; omega⟩
          rcases HN.out n hn with h | h
          · exact HA.out n h
          · rw [h, HG.out]
            rfl
    · have hic : decide ((i : Int) < (t.length : Int)) = false := decide_eq_false (by omega)
      have hi2 : i = t.length := by omega
      have HF := Aside0.mk (show greatN t m = bm from by
        unfold greatN
        rw [HBM.out]
        have : t.any bigN = false := by
          rw [List.any_eq_false]
          intro n hn
          rw [hi2, List.take_length] at HA
          rw [HA.out n hn]
          exact Bool.false_ne_true
        rw [this, Bool.or_false])
      subst hi2
      cases bm with
      | true =>
        go_wp2_with fail
        go_ret
        exact ⟨by rw [HF.out]; rfl, Below.refl _ _⟩
      | false =>
        go_wp2_with fail
        go_ret
        exact ⟨by rw [HF.out]; rfl, Below.refl _ _⟩
end Go.Proofs.YtdijnmcfpbceaaaGreatDoor.X

namespace Go.Proofs.YtdijnmcfpbceaaaGreatDoor.X
open Go.RowKit Go.Proofs.YtdijnmcfpbceaaaGreatDoorW.PrintWords Go.Proofs.YtdijnmcfpbceaaaGreatDoorW.PrintLast Go.Proofs.YtdijnmcfpbceaaaGreatDoorW.PrintMore Go.Proofs.YtdijnmcfpbceaaaGreatDoor.P
set_option linter.unusedVariables false
set_option linter.unusedSimpArgs false
theorem qHc {w : World} {g t : Nat} {cur : Array Value} {xs : List Value} {m : Nat} (hg : w.heap[g]? = some (.cells cur t (0, 0))) (hx : cur.toList.take m = xs) (j : Nat) (u : Value) (hj : xs[j]? = some u) : w.cell? ⟨g, j, none⟩ = some u := by
  rw [qAd hg j]
  subst hx
  rw [List.getElem?_take] at hj
  split at hj
  · simpa using hj
  · cases hj
theorem poke_C {w : World} {base e : Nat} {g n c : Nat} {xs : List Int} (h : w.ownsRow base e 1 (.slice (some ⟨g, 0, none⟩) n c) n (nums .u8 xs)) (hn : n = xs.length) (k : Nat) (hk : k < n) (y : Int) :
    (Kd.int .u8).C (w.setCell ⟨g, k, none⟩ (.int .u8 y)) (some ⟨g, 0, none⟩) n (xs.set k y) ∧ base ≤ g ∧ w.cell? ⟨g, k, none⟩ = some (.int .u8 (xs.getD k 0)) ∧ (∀ j, w.frozen? ⟨g, j, none⟩ = false) ∧ n ≤ c := by
  subst hn
  have hcap := qDk h
  have hbn : xs.length ≤ 9223372036854775807 := by
    obtain ⟨A', c', e1, h1⟩ := qBx h
    exact h1.2.1
  rcases h.2 with ⟨e1, _⟩ | ⟨g', cap, cur, he, hg, hh, _, _, _, ht⟩
  · cases e1
  · injection he with e1 e2 e3
    cases e1
    have hc : ∀ j, j < xs.length → w.cell? ⟨g, j, none⟩ = some (.int .u8 (xs.getD j 0)) := fun j hj => qHc hh ht j _ (by
      show (nums .u8 xs)[j]? = _
      unfold nums
      rw [List.getElem?_map, List.getElem?_eq_getElem hj, List.getD_eq_getElem?_getD, List.getElem?_eq_getElem hj]
      rfl)
    refine ⟨Kd.C_of_reads (d := (0 : Int)) (h1 := fun _ => rfl) ⟨by rw [List.length_set], hbn, fun _ => ⟨_, rfl, fun j hj => ?_⟩⟩, hg, hc k hk, fun j => qAf hh j, hcap⟩
    rw [addG, qAd (qAp hh k (.int .u8 y)) j]
    by_cases e : k = j
    · subst e
      have h1 := hc k hj
      rw [qAd hh k] at h1
      have hlt : k < cur.size := by
        rcases Nat.lt_or_ge k cur.size with h2 | h2
        · exact h2
        · rw [Array.getElem?_eq_none h2] at h1
          cases h1
      rw [Array.getElem?_setIfInBounds_self_of_lt hlt, List.getD_eq_getElem?_getD, List.getElem?_set_self hj]
      rfl
    · rw [Array.getElem?_setIfInBounds_ne e, ← qAd hh j, hc j hj, List.getD_eq_getElem?_getD, List.getD_eq_getElem?_getD, List.getElem?_set_ne e]
theorem qI9 {w : World} {base e n c : Nat} {A : Option Addr} {xs : List Value} (h : w.ownsRow base e 1 (.slice A n c) n xs) (hp : 0 < n) : ∃ g, A = some ⟨g, 0, none⟩ := by
  rcases h.2 with ⟨e1, h0⟩ | ⟨g, cap, cur, he, _⟩
  · omega
  · injection he with e1 e2 e3
    exact ⟨g, e1⟩
set_option maxHeartbeats 8000000 in
set_option maxRecDepth 100000 in
theorem qDd (A0 : Option Addr) (c0 : Nat) (t : List S47) (at_ x_ : Int) (w : World) (hT : Aside0 (Tabs w)) (hE : Aside0 (ErrV w)) (hC : Kd.C k47 w A0 t.length t) (hc : t.length ≤ c0) (ha : -9223372036854775808 ≤ at_ ∧ at_ ≤ 9223372036854775807) (hx : -9223372036854775808 ≤ x_ ∧ x_ ≤ 9223372036854775807) :
    Calls Tryz.prog 6 #[.slice A0 t.length c0, .int .i64 at_, .int .i64 x_] w fun e w' => e = .returned (.bool true) ∧ Below w.heap.size w w' := by
  have X := Aside0.mk hC
  clear hC
  go_enter Tryz.func6, Tryz.ntmps6
  go_wp2_with fail
  refine (qD2 A0 c0 t 12 w X.out hc (by omega)).mono ?_
  rintro e w1 ⟨rfl, hb1⟩
  have HB1 := Aside0.mk hb1
  clear hb1
  obtain ⟨bg, hbg⟩ : ∃ b, greatN t 12 = b := ⟨_, rfl⟩
  have HBG := Aside0.mk hbg
  rw [hbg]
  clear hbg
  cases bg with
  | true =>
    go_wp2_with fail
    refine (qBt w1 ⟨Tabs.below hT.out HB1.out⟩ ⟨hE.out.below HB1.out⟩).mono ?_
    rintro e w2 ⟨rfl, hb⟩
    have HB := Aside0.mk (qAe HB1.out hb)
    clear hb
    go_wp2_with fail
    go_ret
    exact ⟨rfl, HB.out⟩
  | false =>
    have h12 : t.length ≤ 12 := (qF3 HBG.out).1
    go_wp2_with fail
    refine (qBn A0 c0 t w1 ⟨Tabs.below hT.out HB1.out⟩ (Kd.C_below X.out HB1.out) hc (by omega)).mono ?_
    rintro e w2 ⟨v, rfl, ho, hb2⟩
    have HB2 := Aside0.mk (qAe HB1.out hb2)
    clear hb2 HB1
    obtain ⟨A5, c5, rfl, hR⟩ := qBx ho
    have hcap := qDk ho
    have HRC := Aside0.mk (show (Kd.int .u8).C w2 A5 (tarR t).1.length (tarR t).1 from Kd.C_of_reads (d := (0 : Int)) (h1 := fun _ => rfl) hR)
    clear ho hR
    obtain ⟨bt, hbt⟩ : ∃ b, treeB t = b := ⟨_, rfl⟩
    have HBT := Aside0.mk hbt
    cases bt with
    | false =>
      have HTR := Aside0.mk (show tarR t = ([], 7) from by unfold tarR; rw [if_neg (by rw [HBT.out]; simp)])
      rw [HTR.out]
      go_wp2_with fail
      refine (qBt w2 ⟨Tabs.below hT.out HB2.out⟩ ⟨hE.out.below HB2.out⟩).mono ?_
      rintro e w3 ⟨rfl, hb⟩
      have HB := Aside0.mk (qAe HB2.out hb)
      clear hb
      go_wp2_with fail
      go_ret
      exact ⟨rfl, HB.out⟩
    | true =>
      have HTR := Aside0.mk (show tarR t = (tarB t, 0) from by unfold tarR; rw [if_pos HBT.out])
      rw [HTR.out] at HRC hcap
      rw [HTR.out]
      have HYt := Aside0.mk (qDg t)
      have hll : (tarB t).length ≤ 1000000 := by
        have h1 := qCr t (qBi HBT.out).1
        rw [qB4, List.length_append, List.length_replicate]
        omega
      have hpos : 0 < (tarB t).length := by rw [qJn]; omega
      have HPre := Aside0.mk (fun b w (hw : w ≠ []) (hb : b ++ w = tarB t ∨ b = tarB t ++ w) => qG6 HBT.out hw hb)
      clear hbt HTR
      generalize hxt : tarB t = xs at *
      have HXT := Aside0.mk hxt
      clear hxt
      have hl0 : ((xs.length : Int) == 0) = false := beq_eq_false_iff_ne.2 (by omega)
      go_wp2_with (at_builtin; refine qBp (w0 := w2) w2.heap.size rfl (.const (.slice none 0 0)) (.tmp 31) 26 5 .u8 1 rfl Tryz.underlying26 (by kernel_rfl) (by decide) (.slice none 0 0) [] xs A5 xs.length c5 rfl rfl ⟨rfl, .inl ⟨rfl, rfl⟩⟩ (Kd.reads_of_C (d := (0 : Int)) HRC.out) (Below.refl _ _) (Nat.le_refl _) (by simp only [List.length_nil]; omega) ?_; intro v3 w3 ho3 hb3 _ _; rw [List.nil_append] at ho3; have HO3 := Aside0.mk ho3; have HB3 := Aside0.mk (qAe HB2.out hb3); have HBb3 := Aside0.mk hb3; have HC3 := Aside0.mk (Kd.C_below HRC.out hb3); obtain ⟨A3, c3, rfl⟩ := qBw ho3; clear ho3 hb3)
      obtain ⟨g, rfl⟩ := qI9 HO3.out hpos
      obtain ⟨k, hk1, hk2⟩ := qIi at_ (xs.length : Int) (by omega) (by omega)
      obtain ⟨j, hj1, hj2⟩ := qIi x_ 255 (by omega) (by omega)
      refine (hogsheadlaw0_Low.calls at_ (xs.length : Int) (k : Int) w3 hk1).mono ?_
      rintro e w4 ⟨rfl, hd4⟩
      have HO4 := Aside0.mk (ownG HO3.out hd4.below)
      have HB4 := Aside0.mk (qAe HB3.out hd4.below)
      have HBb4 := Aside0.mk (qAe HBb3.out hd4.below)
      have hkl : k < xs.length := by omega
      obtain ⟨_, hgb, hck, hfz, hcap4⟩ := poke_C HO4.out rfl k hkl 0
      have HCk := Aside0.mk hck
      clear hd4 hk1 HO3 HB3 HC3 HBb3 hck
      have HLo := Aside0.mk (show ∀ w' : World, Calls Tryz.prog 27 #[.int .i64 x_, .int .i64 255] w' fun e w'' => e = .returned (.int .i64 (j : Int)) ∧ Below w'.heap.size w' w'' from fun w' => (hogsheadlaw0_Low.calls x_ 255 (j : Int) w' hj1).mono fun e w'' ⟨h1, h2⟩ => ⟨h1, h2.below⟩)
      have HW1 := Aside0.mk (show wrap64 (1 + (j : Int)) = 1 + (j : Int) from by unfold wrap64; omega)
      obtain ⟨cg, tg, hcg⟩ : ∃ cs t, w4.heap[g]? = some (.cells cs t (0, 0)) := by
        rcases HO4.out.2 with ⟨e1, _⟩ | ⟨g', cap, cur, he, hg, hh, _⟩
        · cases e1
        · injection he with e1 e2 e3
          cases e1
          exact ⟨_, _, hh⟩
      have HFz := Aside0.mk (show ∀ w', Below w4.heap.size w4 w' → ∀ j, w'.frozen? ⟨g, j, none⟩ = false from fun w' hb j => qAf (qAg hcg hb) j)
      clear hj1 hcg
      go_wp2_with fail
      refine start_ (n := 11) (S := fun w' => Below w4.heap.size w4 w') (ds := [10]) (bmG 11 0) (by kernel_rfl) rfl (by kernel_rfl) (qAc (Below.refl w4.heap.size w4)) (fun hS => ?_)
      generalize w4.drew = wd at hS ⊢
      refine pure_ (i := 0) (N := some 37) (v := ?_) (a' := ?_) (bmG 11 1) rfl rfl (by kernel_rfl) (fun _ _ _ h => h) (Or.inl ⟨by rfl, ?_⟩) ?_ ?_
      rotate_left
      · intro w'
        go_simp
        (try simp only [HW1.out])
        with_reducible rfl
      rotate_left
      · simp only [Act.put, List.setIfInBounds_toArray, List.set_cons_zero, List.set_cons_succ, i64_w, i32_w]
        rfl
      refine pure_ (i := 1) (N := some 38) (v := ?_) (a' := ?_) (bmG 11 3) rfl rfl (by kernel_rfl) (fun _ _ _ h => h) (Or.inl ⟨by rfl, ?_⟩) ?_ ?_
      rotate_left
      · intro w'
        go_simp
        (try simp only [HW1.out])
        with_reducible rfl
      rotate_left
      · simp only [Act.put, List.setIfInBounds_toArray, List.set_cons_zero, List.set_cons_succ, i64_w, i32_w]
        rfl
      refine pure_ (i := 2) (N := some 39) (v := ?_) (a' := ?_) (bmG 11 7) rfl rfl (by kernel_rfl) (fun _ _ _ h => h) (Or.inl ⟨by rfl, ?_⟩) ?_ ?_
      rotate_left
      · intro w'
        go_simp
        (try simp only [HW1.out])
        with_reducible rfl
      rotate_left
      · simp only [Act.put, List.setIfInBounds_toArray, List.set_cons_zero, List.set_cons_succ, i64_w, i32_w]
        rfl
      refine take_ (i := 3) (N := some 40) (v := ?_) (a' := ?_) (bmG 11 15) rfl rfl (by kernel_rfl) (fun _ _ _ h => h) (Or.inl ⟨by rfl, ?_⟩) hS ?_ ?_
      rotate_left
      · intro w' hS
        have s0 := qA0 hS HCk.out
        go_simp
        with_reducible rfl
      rotate_left
      · simp only [Act.put, List.setIfInBounds_toArray, List.set_cons_zero, List.set_cons_succ, i64_w, i32_w]
        rfl
      refine pure_ (i := 4) (N := some 41) (v := ?_) (a' := ?_) (bmG 11 31) rfl rfl (by kernel_rfl) (fun _ _ _ h => h) (Or.inl ⟨by rfl, ?_⟩) ?_ ?_
      rotate_left
      · intro w'
        go_simp
        (try simp only [HW1.out])
        with_reducible rfl
      rotate_left
      · simp only [Act.put, List.setIfInBounds_toArray, List.set_cons_zero, List.set_cons_succ, i64_w, i32_w]
        rfl
      refine one_ (i := 5) (N := some 42) (bmG 11 63) rfl rfl (by kernel_rfl) (by decide) (fun Kz hKz => ?_)
      refine goes_ Tryz.func27 (by kernel_rfl) rfl #[.int .i64 x_, .int .i64 255] (by rfl) rfl rfl (by (try simp only [List.map_toArray, List.map_cons, List.map_nil]); first | done | rfl) ?_
      refine (HLo.out _).mono ?_
      rintro e wc ⟨rfl, hb⟩
      refine ⟨_, rfl, ?_⟩
      refine hKz.out _ _ (qAe hS hb) (fun hS => ?_)
      clear hKz Kz
      refine norm_ (a' := ?_) ?_ ?_
      rotate_left
      · show Act.put _ (some 42) _ = _
        simp only [Act.put, List.setIfInBounds_toArray, List.set_cons_zero, List.set_cons_succ, i64_w, i32_w]
        rfl
      refine pure_ (i := 6) (N := some 43) (v := ?_) (a' := ?_) (bmG 11 127) rfl rfl (by kernel_rfl) (fun _ _ _ h => h) (Or.inl ⟨by rfl, ?_⟩) ?_ ?_
      rotate_left
      · intro w'
        go_simp
        (try simp only [HW1.out])
        with_reducible rfl
      rotate_left
      · simp only [Act.put, List.setIfInBounds_toArray, List.set_cons_zero, List.set_cons_succ, i64_w, i32_w]
        rfl
      refine pure_ (i := 7) (N := some 44) (v := ?_) (a' := ?_) (bmG 11 255) rfl rfl (by kernel_rfl) (fun _ _ _ h => h) (Or.inl ⟨by rfl, ?_⟩) ?_ ?_
      rotate_left
      · intro w'
        go_simp
        (try simp only [HW1.out])
        with_reducible rfl
      rotate_left
      · simp only [Act.put, List.setIfInBounds_toArray, List.set_cons_zero, List.set_cons_succ, i64_w, i32_w]
        rfl
      refine pure_ (i := 8) (N := some 45) (v := ?_) (a' := ?_) (bmG 11 511) rfl rfl (by kernel_rfl) (fun _ _ _ h => h) (Or.inl ⟨by rfl, ?_⟩) ?_ ?_
      rotate_left
      · intro w'
        go_simp
        (try simp only [HW1.out])
        with_reducible rfl
      rotate_left
      · simp only [Act.put, List.setIfInBounds_toArray, List.set_cons_zero, List.set_cons_succ, i64_w, i32_w]
        rfl
      refine pure_ (i := 9) (N := some 46) (v := ?_) (a' := ?_) (bmG 11 1023) rfl rfl (by kernel_rfl) (fun _ _ _ h => h) (Or.inl ⟨by rfl, ?_⟩) ?_ ?_
      rotate_left
      · intro w'
        go_simp
        (try simp only [HW1.out])
        with_reducible rfl
      rotate_left
      · simp only [Act.put, List.setIfInBounds_toArray, List.set_cons_zero, List.set_cons_succ, i64_w, i32_w]
        rfl
      refine last_ (i := 10) (N := none) (bmG 11 2047) rfl rfl (by kernel_rfl) (by decide) (fun Kz hKz => ?_)
      rw [if_pos (by rfl)]
      unfold Oper.wp execOp
      have s0 := qA0 hS HCk.out
      have hfz2 := HFz.out _ hS
      go_simp
      refine hKz.out _ _ ?_
      clear hKz Kz
      refine done_ (by kernel_rfl) ?_
      have HYk := Aside0.mk (HYt.out (xs[k]'hkl) (List.getElem_mem _))
      have HGk := Aside0.mk (rfl : xs[k]'hkl = xs[k]'hkl)
      obtain ⟨y, hy⟩ : ∃ y, bits BinOp.xor IntKind.u8 (xs[k]'hkl) (IntKind.u8.wrap (1 + (j : Int))) = y := ⟨_, rfl⟩
      have hyy : y ≠ xs[k]'hkl ∧ 0 ≤ y ∧ y ≤ 255 := by
        obtain ⟨b, hb⟩ := Int.eq_ofNat_of_zero_le HYk.out.1
        have hw : IntKind.u8.wrap (1 + (j : Int)) = ((1 + j : Nat) : Int) := by
          rw [IntKind.wrap_u8]
          omega
        rw [← hy, hw, hb]
        have hb2 := HYk.out.2
        exact qH1 b (1 + j) (by omega) (by omega) (by omega)
      rw [hy]
      have HYs := Aside0.mk (show Bytes (xs.set k y) from fun x hx => by
        rcases List.mem_or_eq_of_mem_set hx with h | h
        · exact HYt.out x h
        · rw [h]; exact ⟨hyy.2.1, hyy.2.2⟩)
      have HNe := Aside0.mk (show xs.set k y ≠ xs from fun h => by
        have h1 : (xs.set k y)[k]'(by rw [List.length_set]; exact hkl) = xs[k]'hkl := by simp only [h]
        rw [List.getElem_set_self] at h1
        exact hyy.1 h1)
      obtain ⟨hCp, _⟩ := poke_C (ownG HO4.out hS) rfl k hkl y
      have HCp := Aside0.mk hCp
      have hgw : w.heap.size ≤ g := Nat.le_trans HB2.out.size hgb
      have HB5 := Aside0.mk (qD7 (qAe HB4.out hS) g hgw k (.int .u8 y))
      have HBb5 := Aside0.mk (qD7 (qAe HBb4.out hS) g hgb k (.int .u8 y))
      have HCx := Aside0.mk (Kd.C_below HRC.out HBb5.out)
      have hsl : (xs.set k y).length = xs.length := List.length_set
      clear hy hyy HYk HGk hCp hS HCk HFz HLo HW1 hfz HO4 HB4 HBb4 HBb5
      generalize wc.setCell ⟨g, k, none⟩ (.int .u8 y) = w5 at *
      have hkk : k ≤ xs.length := by omega
      have HUp := Aside0.mk (HPre.out (xs.take k) (xs.drop k) (fun h => by have := congrArg List.length h; rw [List.length_drop] at this; simp only [List.length_nil] at this; omega) (.inl (List.take_append_drop k xs)))
      have HUa := Aside0.mk (HPre.out (xs ++ List.replicate 512 0) (List.replicate 512 0) (fun h => by have := congrArg List.length h; rw [List.length_replicate] at this; simp only [List.length_nil] at this; omega) (.inr rfl))
      clear HPre
      have HR1 := Aside0.mk (qBg (some ⟨g, 0, none⟩) c3 (xs.set k y) w5 ⟨Tabs.below hT.out HB5.out⟩ ⟨hE.out.below HB5.out⟩ (by rw [hsl]; exact HCp.out) (by rw [hsl]; exact hcap4) (by rw [hsl]; exact hll) HYs.out)
      rw [hsl] at HR1
      have HCases := Aside0.mk (show untR (xs.set k y) = ([], 5) ∨ ∃ u, untR (xs.set k y) = (u, 0) ∧ u ≠ t from by
        rcases qC0 (xs.set k y) with e | ⟨u, e, hu, hb⟩
        · exact .inl e
        · exact .inr ⟨u, e, fun h => HNe.out (by rw [← hb, h, HXT.out])⟩)
      clear HNe HCp
      generalize untR (xs.set k y) = U at *
      go_wp2_with fail
      refine HR1.out.mono ?_
      rintro e w6 ⟨v6, rfl, ho6, hb6⟩
      have HB6 := Aside0.mk (qAe HB5.out hb6)
      have HCx6 := Aside0.mk (Kd.C_below HCx.out hb6)
      have HO6 := Aside0.mk ho6
      clear ho6 hb6 HR1 HCx HB5
      have hlk : (xs.take k).length = k := by rw [List.length_take]; omega
      have HR2 := Aside0.mk (qBg A5 c5 (xs.take k) w6 ⟨Tabs.below hT.out HB6.out⟩ ⟨hE.out.below HB6.out⟩ (Kd.C_take HCx6.out hkk) (by rw [hlk]; omega) (by rw [hlk]; omega) (fun x hx => HYt.out x (List.mem_of_mem_take hx)))
      rw [hlk, HUp.out] at HR2
      have hki : 0 ≤ (k : Int) := by omega
      go_wp2_with fail
      refine HR2.out.mono ?_
      rintro e w7 ⟨v7, rfl, _, hb7⟩
      have HB7 := Aside0.mk (qAe HB6.out hb7)
      have HCx7 := Aside0.mk (Kd.C_below HCx6.out hb7)
      have HO7 := Aside0.mk (ownG HO6.out hb7)
      clear hb7 HR2 HCx6 HB6 HO6
      go_wp2_with (first
        | (at_builtin; (refine qBp (w0 := w7) w7.heap.size rfl (.const (.slice none 0 0)) (.tmp 60) 26 5 .u8 1 rfl Tryz.underlying26 (by kernel_rfl) (by decide) (.slice none 0 0) [] xs A5 xs.length c5 rfl rfl ⟨rfl, .inl ⟨rfl, rfl⟩⟩ (Kd.reads_of_C (d := (0 : Int)) HCx7.out) (Below.refl _ _) (Nat.le_refl _) (by simp only [List.length_nil]; omega) ?_); intro v8 w8 ho8 hb8 _ _; rw [List.nil_append] at ho8; have HO8 := Aside0.mk ho8; have HB8 := Aside0.mk hb8; clear ho8 hb8)
        | (at_builtin; (refine qCf (w0 := w7) w7.heap.size rfl (.tmp 61) (.const (.int .i64 512)) 26 3 5 rfl Tryz.underlying26 Tryz.underlying3 (by kernel_rfl) v8 0 xs .i64 512 rfl rfl HO8.out HB8.out HB8.out.size (by omega) ?_); intro v9 w9 ho9 hb9 _; have HO9 := Aside0.mk ho9; have HB9 := Aside0.mk hb9; obtain ⟨A9, c9, rfl⟩ := qBw ho9; clear ho9 hb9)
        | (at_builtin; fail))
      have hln : (xs ++ List.replicate 512 0).length = xs.length + 512 := by rw [List.length_append, List.length_replicate]
      obtain ⟨hC9, hc9⟩ := own_C HO9.out rfl
      have HBx := Aside0.mk (qAe HB7.out HB9.out)
      have HR3 := Aside0.mk (qBg A9 c9 (xs ++ List.replicate 512 0) w9 ⟨Tabs.below hT.out HBx.out⟩ ⟨hE.out.below HBx.out⟩ hC9 hc9 (by
        have h1 := qCr t (qBi HBT.out).1
        have h2 : xs.length = ((entsT t).flatMap entryB).length + 1024 := by rw [← HXT.out, qB4, List.length_append, List.length_replicate]
        rw [hln]
        omega) (HYt.out.append (qDc _)))
      rw [hln, HUa.out] at HR3
      have HO9b := Aside0.mk (ownG HO7.out HB9.out)
      clear hC9 hc9 HB8 HO8 HB9 HO9 HB7 HO7 HCx7 HUa HUp HYt
      refine HR3.out.mono ?_
      rintro e wa ⟨va, rfl, _, hba⟩
      have HBa := Aside0.mk (qAe HBx.out hba)
      have HOa := Aside0.mk (ownG HO9b.out hba)
      clear hba HR3 HBx HO9b
      rcases HCases.out with eU | ⟨u, eU, hne⟩
      · rw [eU] at HOa ⊢
        obtain ⟨A6, c6, rfl, _, _⟩ := qBv HOa.out
        clear HOa HCases eU
        go_wp2_with fail
        refine (qBt wa ⟨Tabs.below hT.out HBa.out⟩ ⟨hE.out.below HBa.out⟩).mono ?_
        rintro e wz ⟨rfl, hbz⟩
        have HBz := Aside0.mk (qAe HBa.out hbz)
        clear hbz
        go_wp2_with fail
        go_ret
        exact ⟨rfl, HBz.out⟩
      · rw [eU] at HOa ⊢
        obtain ⟨A6, c6, rfl, hc6, hC6⟩ := qBv HOa.out
        have HC6 := Aside0.mk hC6
        clear HOa HCases eU hC6
        dsimp only at *
        go_wp2_with fail
        refine (qCk A6 c6 u A0 c0 t wa HC6.out hc6 (Kd.C_below X.out HBa.out) hc).mono ?_
        rintro e wb ⟨r, rfl, hr, hbb⟩
        obtain rfl : r = false := by
          cases r with
          | false => rfl
          | true => exact absurd (hr.1 rfl) hne
        have HBb := Aside0.mk (qAe HBa.out hbb)
        clear hr hbb HC6 hne
        go_wp2_with fail
        refine (qBt wb ⟨Tabs.below hT.out HBb.out⟩ ⟨hE.out.below HBb.out⟩).mono ?_
        rintro e wz ⟨rfl, hbz⟩
        have HBz := Aside0.mk (qAe HBb.out hbz)
        clear hbz
        go_wp2_with fail
        go_ret
        exact ⟨rfl, HBz.out⟩
end Go.Proofs.YtdijnmcfpbceaaaGreatDoor.X
