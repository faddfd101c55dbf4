/- Part 5 of what is behind the row RowValueOf: XVMA, XVMB. -/
import Derived.Test.YtbnoihpooeombaaDoorMVO4
import Derived.Outline
import Derived.Deep.CutBlock
import Derived.Deep.RegionLaw
import Derived.Test.YtbnoihpooeombaaDoorProg
import Derived.Below
import Derived.Deep.Draws
import Derived.Deep.AppendLies
import Derived.Maps.AppendAt
import Derived.OwnWalk
import Derived.Laws.BytesArg
import Derived.Laws.MakeOwn
import Derived.Laws.OwnMore
import Derived.Deep.OwnRows
import Derived.Tactics
import Derived.Lib.ConvBytes
import Derived.Laws.Slices
import Derived.WalkKit
import Derived.KernelRfl
import Derived.RowKit3
import Derived.Deep.LoopGhost
import Derived.Deep.QuietTactic
import Derived.BigQuiet
import Derived.WideLaws
import Derived.Deep.DeepCutAuto
import Derived.Deep.RegionHeld3
import Derived.Laws.Rows
import Derived.Lib.AppendStr
import Derived.ArgAppend
import Derived.Laws.IdiomCopy
import Derived.OrdersHeld
import Derived.Laws.BitsLemmas
import Derived.RowKit
import Derived.Laws.Cover1
import Derived.Laws.StructEq
import Derived.Lib.ItoaNum
import Derived.Lib.ItoaMem
import Derived.Deep.AppendSrc
import Derived.Lib.SliceRun
import Derived.WalkLawsBesides
import Derived.WalkSpells
import Derived.LoopTactic
import Derived.Lib.Hide
import Derived.Lib.IndexMore
import Derived.Lib.Bytealg
import Derived.Laws.BitsAllLaws
import Derived.Lib.Repeat
import Derived.Lib.AppendZerosOnto
import Derived.Lib.Overlaps
import Derived.Laws.Externs
import Derived.Laws.CopyOwn
import Derived.Shelf.RegionOpenPlain
import Derived.Laws.Bits64b
import Derived.Laws.NewBlocks
import Derived.Lib.AppendIntMem
import Derived.Shelf.Strings.Builder1
import Derived.Shelf.Strings.Builder2
import Derived.Shelf.Strings.OnBuilder
import Derived.Shelf.Strings.BuilderF
import Derived.Shelf.Strings.BuilderK
import Derived.Shelf.Strconv.Itoa0
import Derived.Shelf.Strconv.Itoa1
import Derived.Shelf.LaysM
import Derived.Shelf.Strconv.Itoa2
import Derived.Shelf.Strconv.Itoa3
import Derived.Shelf.Strings.Prefix
import Derived.Shelf.Bits.Mul64
import Derived.Shelf.Strings.Repeat
import Derived.Deep.DeepMust
import Derived.Lib.ItoaLen
namespace Go.Proofs.YtbnoihpooeombaaDoor.X
open Go.RowKit Go.Proofs.YtbnoihpooeombaaDoorW.PrintWords Go.Proofs.YtbnoihpooeombaaDoorW.PrintLast Go.Proofs.YtbnoihpooeombaaDoorW.PrintMore Go.Proofs.YtbnoihpooeombaaDoor.P
set_option linter.unusedVariables false
set_option linter.unusedSimpArgs false
theorem qCg {w w1 : World} (n : Nat) (h : ∃ m, w1 = (w.drewN n).drewN m) : ∃ m, w1 = w.drewN m := by
  obtain ⟨m, rfl⟩ := h
  exact ⟨n + m, by simp⟩
def bmR (n k : Nat) : Array Bool := ((List.range n).map fun i => Nat.testBit k i).toArray
set_option maxHeartbeats 80000000 in
set_option maxRecDepth 100000 in
theorem qEw (A0 : Option Addr) (c0 : Nat) (l0 : List ByteArray) (A1 : Option Addr) (c1 : Nat) (l1 : List S25) (r1 : Int) (r2 : Bool) (r3 : Int) (r4 : ByteArray) (r5 : List S25) (r6 : List ByteArray) (w : World)
    (hr0 : Kd.C Kd.string w A0 l0.length l0) (hc0 : l0.length ≤ c0) (hr1 : Kd.C k25 w A1 l1.length l1) (hc1 : l1.length ≤ c1) (hn : l0.length ≤ 100000) (kM : Nat) (hM : hogsheadref15_May.f kM 5 false 0 ByteArray.empty (ofP l0 l1 [] []).2 (ofP l0 l1 [] []).1 = some (mayV 16 ⟨5, false, 0, ByteArray.empty, (ofP l0 l1 [] []).2, (ofP l0 l1 [] []).1⟩ 0).2)
    (h : ofR (ofP l0 l1 [] []).1 (ofP l0 l1 [] []).2 = (r1, r2, r3, r4, r5, r6)) :
    Calls Tryd.prog 31 #[.slice A0 l0.length c0, .slice A1 l1.length c1] w fun e w' =>
      ∃ A4 c4 A5 c5, e = .returned (.agg #[.int .i64 r1, .bool r2, .int .i64 r3, .string r4, .slice A4 r5.length c4, .slice A5 r6.length c5]) ∧ r5.length ≤ c4 ∧ k25.C w' A4 r5.length r5 ∧ r6.length ≤ c5 ∧ Kd.string.C w' A5 r6.length r6 ∧ Below w.heap.size w w' := by
  have X0 := Aside0.mk hr0
  have X1 := Aside0.mk hr1
  have hm0 : l0.length ≤ 9223372036854775807 := hr0.2.1
  have hm1 : l1.length ≤ 9223372036854775807 := hr1.2.1
  have H0 := Aside0.mk h
  have HM := Aside0.mk hM
  clear hr0 hr1 h hM
  have HB0 := Aside0.mk (qAd (qAd (Below.refl w.heap.size w) (.cells #[.int .i64 0, .bool false, .int .i64 0, .string ⟨#[]⟩, .slice none 0 0, .slice none 0 0] 25)) (.cells #[.int .i64 5, .bool false, .int .i64 0, .string ⟨#[]⟩, .slice none 0 0, .slice none 0 0] 25))
  have HT := Aside0.mk (qCn w #[.int .i64 0, .bool false, .int .i64 0, .string ⟨#[]⟩, .slice none 0 0, .slice none 0 0] #[.int .i64 5, .bool false, .int .i64 0, .string ⟨#[]⟩, .slice none 0 0, .slice none 0 0] 25 25)
  go_enter Tryd.func31, Tryd.ntmps31
  go_wp2_with fail
  generalize (w.alloc (.cells #[.int .i64 0, .bool false, .int .i64 0, .string ⟨#[]⟩, .slice none 0 0, .slice none 0 0] 25)).alloc (.cells #[.int .i64 5, .bool false, .int .i64 0, .string ⟨#[]⟩, .slice none 0 0, .slice none 0 0] 25) = W0 at *
  have hw0 : w.heap.size + 2 ≤ W0.heap.size := by have := blk_lt HT.out.2; omega
  go_loopw [6] (fun v6 wr => ∃ (i : Nat) (K : List ByteArray) (V : List S25) (s4 s5 : Value) (n4 n5 : List Value), v6 = .int .i64 i ∧ i ≤ l0.length ∧ Aside0 (V.length = K.length) ∧ K.length ≤ i ∧ Aside0 (qAw K = true) ∧ Aside0 (Below w.heap.size w wr) ∧ w.heap.size + 2 ≤ wr.heap.size ∧ Aside0 (wr.heap[w.heap.size]? = some (.cells #[.int .i64 0, .bool false, .int .i64 0, .string ⟨#[]⟩, .slice none 0 0, .slice none 0 0] 25 (0, 0))) ∧ Aside0 (wr.heap[w.heap.size + 1]? = some (.cells #[.int .i64 5, .bool false, .int .i64 0, .string ⟨#[]⟩, s4, s5] 25 (0, 0))) ∧ Aside0 (wr.ownsRow (w.heap.size + 2) 25 6 s4 K.length n4) ∧ Aside0 (wr.ownsRow (w.heap.size + 2) 9 1 s5 K.length n5) ∧ Aside0 (Reps (k25.K w) 6 V n4) ∧ Aside0 (Reps (Kd.string.K w) 1 K n5) ∧ Aside0 (ofP (l0.drop i) (l1.drop i) K V = ofP l0 l1 [] [])) (fun v _ => l0.length - (intOf v).toNat)
  case atStart => exact ⟨0, [], [], .slice none 0 0, .slice none 0 0, [], [], rfl, by omega, ⟨rfl⟩, by simp, ⟨rfl⟩, HB0, hw0, ⟨HT.out.1⟩, ⟨HT.out.2⟩, ⟨⟨rfl, .inl ⟨rfl, rfl⟩⟩⟩, ⟨⟨rfl, .inl ⟨rfl, rfl⟩⟩⟩, ⟨Reps.none _ _⟩, ⟨Reps.none _ _⟩, ⟨rfl⟩⟩
  case round =>
    clear HT HB0
    obtain ⟨i, K, V, s4, s5, n4, n5, rfl, hi, hKV, hKi, HRI, HB, hws, HZ, HO, O4, O5, R4, R5, H⟩ := hrel
    by_cases hlt : i < l0.length ∧ i < l1.length
    · obtain ⟨hlt0, hlt1⟩ := hlt
      have hcond : (i : Int) < (l0.length : Int) := by omega
      have hcond1 : (i : Int) < (l1.length : Int) := by omega
      obtain ⟨ad, rfl, hkey⟩ := Kd.at_string (Kd.C_below X0.out HB.out) (i : Int) (by omega) (by omega)
      simp only [Int.toNat_natCast] at hkey
      have HK := Aside0.mk (show rdOf ByteArray.empty l0 (i : Int) = l0[i] from by simp [rdOf, List.getD_eq_getElem?_getD, show i < l0.length by omega])
      generalize rdOf ByteArray.empty l0 (i : Int) = key at *
      have HKC := Aside0.mk hkey
      obtain ⟨a5, b5, hrd5⟩ := qA4 O5.out (R5.out.imp_ (fun p c h => Kd.string.K_below HB.out h)) rfl
      obtain ⟨rfl, hC5⟩ := hrd5
      have C5 := Aside0.mk hC5
      obtain ⟨a4, b4, rfl⟩ := qBq O4.out
      have hcap5 := qCb O5.out
      have hcap4 := qCb O4.out
      have hKm : K.length ≤ 9223372036854775807 := by omega
      clear hkey hC5
      go_upto_block 2 with (fail)
      go_cut [7] (fun v7 wc => v7 = .int .i64 (posK K key : Nat) ∧ Aside0 (∃ n, wc = wr.drewN n))
      case first =>
        obtain ⟨y0, y1, y2, y3, y4, y5⟩ := qAq HO.out
        clear y0 y1 y2 y3 y4
        go_wp2_with fail
        obtain ⟨wo, rfl⟩ : ∃ wo : World, wo = wr := ⟨_, rfl⟩
        go_loopw [7] (fun v7 wi => ∃ k : Nat, v7 = .int .i64 k ∧ k ≤ posK K key ∧ Aside0 (∃ n, wi = wo.drewN n)) (fun v _ => posK K key - (intOf v).toNat)
        case atStart => exact ⟨0, rfl, by omega, ⟨0, rfl⟩⟩
        case round =>
          obtain ⟨k, rfl, hk, hW⟩ := hrel
          obtain ⟨nd, rfl⟩ := hW.out
          clear hW
          have hpl := qDb K key
          by_cases hkl : k < K.length
          · have hkc : decide ((k : Int) < (K.length : Int)) = true := by simp; omega
            obtain ⟨a5', e5, hk5⟩ := Kd.at_string C5.out (k : Int) (by omega) (by omega)
            subst e5
            simp only [Int.toNat_natCast] at hk5
            have HKK := Aside0.mk (show rdOf ByteArray.empty K (k : Int) = K[k] from by simp [rdOf, List.getD_eq_getElem?_getD, hkl])
            generalize rdOf ByteArray.empty K (k : Int) = kk at *
            have hkey := HKC.out
            have hpi := qCs K key HRI.out k hkl
            rw [← HKK.out] at hpi
            have hk0 : 0 ≤ (k : Int) := by omega
            have hi0 : 0 ≤ (i : Int) := by omega
            cases hl : lessB kk key with
            | true =>
              have hkp : k < posK K key := hpi.1 hl
              have hll : Op.bytesLess kk.toList key.toList = true := hl
              clear hl hpi HKK
              go_wp2_with fail
              go_quiet (fail)
              go_wp2_with fail
              go_roundw
              case rel => exact ⟨k + 1, by go_num, by omega, ⟨⟨_, rfl⟩⟩⟩
              case measure => simp [intOf]; omega
            | false =>
              have hkp : k = posK K key := by
                have : ¬ k < posK K key := fun c => by rw [hpi.2 c] at hl; cases hl
                omega
              have hll : Op.bytesLess kk.toList key.toList = false := hl
              have HKP := Aside0.mk hkp
              clear hl hpi HKK hkp
              go_wp2_with fail
              go_quiet (fail)
              go_wp2_with fail
              go_meet
              exact ⟨by rw [HKP.out], ⟨qCg _ ⟨_, rfl⟩⟩⟩
          · have hkc : decide ((k : Int) < (K.length : Int)) = false := by simp; omega
            have hkd : decide (k < K.length) = false := by simp; omega
            have HKP := Aside0.mk (show k = posK K key by omega)
            have hk0 : 0 ≤ (k : Int) := by omega
            clear hkl
            go_wp2_with fail
            go_quiet (fail)
            go_wp2_with fail
            go_meet
            exact ⟨by rw [HKP.out], ⟨qCg _ ⟨_, rfl⟩⟩⟩
      case rest =>
        obtain ⟨rfl, hD⟩ := hcut
        obtain ⟨nd, rfl⟩ := hD.out
        clear hD
        have hpl := qDb K key
        go_upto_region 8 with (fail)
        go_cut [56] (fun v56 wc => v56 = .bool (isK K key) ∧ Aside0 (∃ n, wc = wr.drewN n))
        case first =>
          obtain ⟨y0, y1, y2, y3, y4, y5⟩ := qAq HO.out
          clear y0 y1 y2 y3 y4
          have hkey := HKC.out
          have hi0 : 0 ≤ (i : Int) := by omega
          by_cases hkl : posK K key < K.length
          · obtain ⟨a5', e5, hk5⟩ := Kd.at_string C5.out (posK K key : Int) (by omega) (by omega)
            subst e5
            simp only [Int.toNat_natCast] at hk5
            have HKK := Aside0.mk (show rdOf ByteArray.empty K (posK K key : Int) = K[posK K key] from by simp [rdOf, List.getD_eq_getElem?_getD, hkl])
            generalize rdOf ByteArray.empty K (posK K key : Int) = kk at *
            have HII := Aside0.mk (show isK K key = (kk.toList == key.toList) by
              rw [Bool.eq_iff_iff, beq_iff_eq, qBl, HKK.out]
              unfold isK
              rw [decide_eq_true_eq]
              exact ⟨fun ⟨_, h⟩ => h, fun h => ⟨hkl, h⟩⟩)
            clear HKK
            generalize posK K key = j at *
            have hkc : decide ((j : Int) < (K.length : Int)) = true := by simp; omega
            have hk0 : 0 ≤ (j : Int) := by omega
            generalize isK K key = bi at *
            go_wp2_with fail
            go_quiet (fail)
            go_wp2_with fail
            go_meet
            exact ⟨by rw [HII.out], ⟨qCg _ ⟨_, rfl⟩⟩⟩
          · have HII := Aside0.mk (show isK K key = false by
              unfold isK
              rw [decide_eq_false_iff_not]
              exact fun ⟨h, _⟩ => hkl h)
            generalize posK K key = j at *
            have hkc : decide ((j : Int) < (K.length : Int)) = false := by simp; omega
            have hkd : decide (j < K.length) = false := by simp; omega
            generalize isK K key = bi at *
            clear hkl
            go_wp2_with fail
            go_quiet (fail)
            go_wp2_with fail
            go_meet
            exact ⟨by rw [HII.out], ⟨qCg _ ⟨_, rfl⟩⟩⟩
        case rest =>
          obtain ⟨rfl, hD⟩ := hcut
          obtain ⟨nq, rfl⟩ := hD.out
          clear hD
          have hbd := qAc (Below.refl wr.heap.size wr) nq
          have HB1 := Aside0.mk (qAj HB.out hbd)
          have HZ1 := Aside0.mk (qAm HZ.out hbd)
          have HO1 := Aside0.mk (qAm HO.out hbd)
          have P4 := Aside0.mk (qA2 O4.out hbd)
          have P5 := Aside0.mk (qA2 O5.out hbd)
          have hws1 : w.heap.size + 2 ≤ (wr.drewN nq).heap.size := hws
          have hkey := (show (wr.drewN nq).cell? _ = _ from HKC.out)
          clear HB HZ HO O4 O5 hbd HKC C5 hws
          generalize wr.drewN nq = W at *
          have h := H.out
          clear H
          rw [List.drop_eq_getElem_cons (show i < l0.length by omega), List.drop_eq_getElem_cons (show i < l1.length by omega), ← HK.out] at h
          rw [ofP] at h
          cases hik : isK K key with
          | true =>
            rw [if_pos hik] at h
            have HR := Aside0.mk h
            clear h hik
            go_wp2_with fail
            go_roundw
            case rel => exact ⟨i + 1, K, V, _, _, n4, n5, by go_num, by omega, hKV, by omega, HRI, HB1, by omega, HZ1, HO1, P4, P5, R4, R5, HR⟩
            case measure => simp [intOf]; omega
          | false =>
            rw [if_neg (by rw [hik]; decide)] at h
            have HR := Aside0.mk h
            have HNK := Aside0.mk hik
            have HRJ := Aside0.mk (qBt K key HRI.out hik)
            generalize posK K key = j at *
            clear h hik
            go_upto_region 9 with (fail)
            go_cut [] (fun wc => ∃ (W1 : World) (a6 : Option Addr) (b6 : Nat), Aside0 (Below W.heap.size W W1) ∧ Aside0 (W1.ownsRow W.heap.size 9 1 (.slice a6 (K.length + 1) b6) (K.length + 1) (n5.take j ++ [.string key] ++ n5.drop j)) ∧ Aside0 (∃ n, wc = (W1.setCell ⟨w.heap.size + 1, 5, none⟩ (.slice a6 (K.length + 1) b6)).drewN n))
            case first =>
              focus
                obtain ⟨y0, y1, y2, y3, y4, y5⟩ := qAq HO1.out
                clear y0 y1 y2 y3 y4
                have hi0 : 0 ≤ (i : Int) := by omega
                have hj0 : 0 ≤ (j : Int) := by omega
                have hjb : (j : Int) ≤ (b5 : Int) := by omega
                have hjc : (j : Int) ≤ (K.length : Int) := by omega
                have hKb : (K.length : Int) ≤ (b5 : Int) := by omega
                have HBW := Aside0.mk (Below.refl W.heap.size W)
                have HY5 := Aside0.mk y5
                have HKY := Aside0.mk hkey
                have HN_ := Aside0.mk (qD2 P5.out)
                have HA_ := Aside0.mk (fun e : a5 = none => show K.length = 0 from by
                  subst e
                  rcases P5.out.2 with ⟨e1, e2⟩ | ⟨g, cap, cur, he, _⟩
                  · exact e2
                  · cases he)
                have HC_ := Aside0.mk (qCe (d := Kd.string) (by decide) R5.out)
                have hL5 : n5.length = K.length := by have := P5.out.1; omega
                have y5_0a : ∀ o, (W.alloc o).cell? ⟨w.heap.size + 1, 5, none⟩ = some (.slice a5 K.length b5) := fun o => qAh (qAd (Below.refl W.heap.size W) o) HY5.out
                have hkey_0a : ∀ o, (W.alloc o).cell? (ad.add i) = some (.string key) := fun o => qAh (qAd (Below.refl W.heap.size W) o) HKY.out
                have HR_ := Aside0.mk (qFn (A := if b5 = j then a5 else Option.map (fun x => x.add j) a5) P5.out j (by omega) (fun ad ha => by
                  split at ha
                  · exact .inl ⟨by omega, ha⟩
                  · rcases P5.out.2 with ⟨e1, e2⟩ | ⟨g, cap, cur, he, _⟩
                    · injection e1 with e3 _ _
                      subst e3
                      cases ha
                    · injection he with e3 _ _
                      subst e3
                      cases ha
                      refine .inr ⟨g, rfl, ?_⟩
                      rw [Nat.mul_one]
                      simp only [Addr.add, Nat.zero_add]; split <;> first | rfl | (rename_i h_; rw [h_])))
                rw [Nat.mul_one] at HR_
                have HCA := Aside0.mk (fun e : (if b5 = j then a5 else Option.map (fun x => x.add j) a5) = none => show K.length - j = 0 from by
                  have h0 : a5 = none := by
                    split at e
                    · exact e
                    · cases a5 with
                      | none => rfl
                      | some _ => cases e
                  have := HA_.out h0
                  omega)
                refine start_ (n := 18) (S := fun w' => w'.cell? ⟨w.heap.size + 1, 5, none⟩ = some (.slice a5 K.length b5) ∧ w'.cell? (ad.add i) = some (.string key)) (ds := [17]) #[false, false, false, false, false, false, false, false, false, false, false, false, false, false, false, false, false, false] (by kernel_rfl) rfl rfl ⟨y5, hkey⟩ (fun hHeld => ?_)
                have HBW := Aside0.mk (qAe (Below.refl W.heap.size W))
                generalize W.drew = wd at HBW hHeld ⊢
                refine pure_ (i := 0) (N := some 57) (v := ?_) (a' := ?_) (bmR 18 1) rfl rfl (by kernel_rfl) (fun _ _ _ h => h) (Or.inl ⟨by rfl, ?_⟩) ?_ ?_
                rotate_left
                · intro w'
                  go_simp
                  with_reducible rfl
                rotate_left
                · simp only [Act.put, List.setIfInBounds_toArray, List.set_cons_zero, List.set_cons_succ, i64_w, i32_w]
                  rfl
                refine take_ (i := 1) (N := some 58) (v := ?_) (a' := ?_) (bmR 18 3) rfl rfl (by kernel_rfl) (fun _ _ _ h => h) (Or.inl ⟨by rfl, ?_⟩) hHeld ?_ ?_
                rotate_left
                · rintro w' ⟨s0, s1⟩
                  go_simp
                  with_reducible rfl
                rotate_left
                · simp only [Act.put, List.setIfInBounds_toArray, List.set_cons_zero, List.set_cons_succ, i64_w, i32_w]
                  rfl
                refine pure_ (i := 2) (N := some 59) (v := ?_) (a' := ?_) (bmR 18 7) rfl rfl (by kernel_rfl) (fun _ _ _ h => h) (Or.inl ⟨by rfl, ?_⟩) ?_ ?_
                rotate_left
                · intro w'
                  go_simp
                  with_reducible rfl
                rotate_left
                · simp only [Act.put, List.setIfInBounds_toArray, List.set_cons_zero, List.set_cons_succ, i64_w, i32_w]
                  rfl
                refine pure_ (i := 3) (N := some 60) (v := ?_) (a' := ?_) (bmR 18 15) rfl rfl (by kernel_rfl) (fun _ _ _ h => h) (Or.inl ⟨by rfl, ?_⟩) ?_ ?_
                rotate_left
                · intro w'
                  go_simp
                  with_reducible rfl
                rotate_left
                · simp only [Act.put, List.setIfInBounds_toArray, List.set_cons_zero, List.set_cons_succ, i64_w, i32_w]
                  rfl
                refine pure_ (i := 5) (N := some 62) (v := ?_) (a' := ?_) (bmR 18 47) rfl rfl (by kernel_rfl) (fun _ _ _ h => h) (Or.inl ⟨by rfl, ?_⟩) ?_ ?_
                rotate_left
                · intro w'
                  go_simp
                  with_reducible rfl
                rotate_left
                · simp only [Act.put, List.setIfInBounds_toArray, List.set_cons_zero, List.set_cons_succ, i64_w, i32_w]
                  rfl
                refine pure_ (i := 6) (N := some 63) (v := ?_) (a' := ?_) (bmR 18 111) rfl rfl (by kernel_rfl) (fun _ _ _ h => h) (Or.inl ⟨by rfl, ?_⟩) ?_ ?_
                rotate_left
                · intro w'
                  go_simp
                  with_reducible rfl
                rotate_left
                · simp only [Act.put, List.setIfInBounds_toArray, List.set_cons_zero, List.set_cons_succ, i64_w, i32_w]
                  rfl
                refine pure_ (i := 7) (N := some 64) (v := ?_) (a' := ?_) (bmR 18 239) rfl rfl (by kernel_rfl) (fun _ _ _ h => h) (Or.inl ⟨by rfl, ?_⟩) ?_ ?_
                rotate_left
                · intro w'
                  go_simp
                  with_reducible rfl
                rotate_left
                · simp only [Act.put, List.setIfInBounds_toArray, List.set_cons_zero, List.set_cons_succ, i64_w, i32_w]
                  rfl
                refine take_ (i := 8) (N := some 65) (v := ?_) (a' := ?_) (bmR 18 495) rfl rfl (by kernel_rfl) (fun _ _ _ h => h) (Or.inl ⟨by rfl, ?_⟩) hHeld ?_ ?_
                rotate_left
                · rintro w' ⟨s0, s1⟩
                  go_simp
                  with_reducible rfl
                rotate_left
                · simp only [Act.put, List.setIfInBounds_toArray, List.set_cons_zero, List.set_cons_succ, i64_w, i32_w]
                  rfl
                refine pure_ (i := 11) (N := some 68) (v := ?_) (a' := ?_) (bmR 18 2543) rfl rfl (by kernel_rfl) (fun _ _ _ h => h) (Or.inl ⟨by rfl, ?_⟩) ?_ ?_
                rotate_left
                · intro w'
                  go_simp
                  with_reducible rfl
                rotate_left
                · simp only [Act.put, List.setIfInBounds_toArray, List.set_cons_zero, List.set_cons_succ, i64_w, i32_w]
                  rfl
                refine take_ (i := 12) (N := some 69) (v := ?_) (a' := ?_) (bmR 18 6639) rfl rfl (by kernel_rfl) (fun _ _ _ h => h) (Or.inl ⟨by rfl, ?_⟩) hHeld ?_ ?_
                rotate_left
                · rintro w' ⟨s0, s1⟩
                  go_simp
                  with_reducible rfl
                rotate_left
                · simp only [Act.put, List.setIfInBounds_toArray, List.set_cons_zero, List.set_cons_succ, i64_w, i32_w]
                  rfl
                refine pure_ (i := 13) (N := some 70) (v := ?_) (a' := ?_) (bmR 18 14831) rfl rfl (by kernel_rfl) (fun _ _ _ h => h) (Or.inl ⟨by rfl, ?_⟩) ?_ ?_
                rotate_left
                · intro w'
                  go_simp
                  with_reducible rfl
                rotate_left
                · simp only [Act.put, List.setIfInBounds_toArray, List.set_cons_zero, List.set_cons_succ, i64_w, i32_w]
                  rfl
                refine pure_ (i := 14) (N := some 71) (v := ?_) (a' := ?_) (bmR 18 31215) rfl rfl (by kernel_rfl) (fun _ _ _ h => h) (Or.inl ⟨by rfl, ?_⟩) ?_ ?_
                rotate_left
                · intro w'
                  go_simp
                  with_reducible rfl
                rotate_left
                · simp only [Act.put, List.setIfInBounds_toArray, List.set_cons_zero, List.set_cons_succ, i64_w, i32_w]
                  rfl
                refine join_ (σ := Value × Nat) 4 (bmR 18 31743) (fun s_ => [(61, s_.1), (66, .slice (some ⟨s_.2, 0, none⟩) 1 1)]) (fun s_ w' => (w'.cell? ⟨w.heap.size + 1, 5, none⟩ = some (.slice a5 K.length b5) ∧ w'.cell? (ad.add i) = some (.string key)) ∧ Below W.heap.size W w' ∧ w'.ownsRow W.heap.size 9 1 s_.1 j ((n5).take j) ∧ w'.heap[s_.2]? = some (.cells #[.string key] 9 (0, 0))) ?_ ?_
                rotate_left
                · intro hCont
                  refine two_ (i := 4) (j := 9) (Ni := some 61) (Nj := some 66) (bmR 18 31231) (bmR 18 31727) rfl rfl rfl rfl (by kernel_rfl) (by decide) (by decide) (fun Kz hKz => ?_) (fun Kz hKz => ?_)
                  · refine qA0 (W.heap.size) rfl (.const (.slice none 0 0)) (.tmp 60) 23 9 (.string ⟨#[]⟩) 1 16 rfl Tryd.underlying23 (by kernel_rfl) rfl (by decide) (by decide) (.slice none 0 0) (0) ([]) (a5) (j) (b5) ((n5).take j) rfl (by first | rfl | (simp [Act.eval]; done)) ⟨rfl, .inl ⟨rfl, rfl⟩⟩ (fun e => by have := HA_.out e; omega) (by simp; omega) (qBu HBW.out (qCt j HN_.out)) (fun u hu => HC_.out u (List.mem_of_mem_take hu)) (qAn HBW.out) (by omega) ?_
                    intro v1 w1 hv1 hg1 _
                    simp only [Nat.zero_add, List.nil_append] at hv1
                    have HV1 := Aside0.mk hv1
                    (try (have HKN := Aside0.mk (qBs HKB.out hg1 (by simp [Value.ownBlock])); clear HKB; have HKB := HKN; clear HKN))
                    have HBN : Aside0 (Below W.heap.size W w1) := ⟨below_grown' HBW.out hg1 (fun k hk => by cases hk)⟩
                    clear HBW; have HBW := HBN; clear HBN
                    clear hv1 hg1
                    refine hKz.out _ _ ⟨qAh HBW.out HY5.out, qAh HBW.out HKY.out⟩ (fun hHeld => ?_)
                    clear hKz Kz
                    refine norm_ (a' := ?_) ?_ ?_
                    rotate_left
                    · show Act.put _ (some 61) _ = _
                      simp only [Act.put, List.setIfInBounds_toArray, List.set_cons_zero, List.set_cons_succ, i64_w, i32_w]
                      rfl
                    refine one_ (i := 9) (N := some 66) (bmR 18 31743) rfl rfl (by kernel_rfl) (by decide) (fun Kz hKz => ?_)
                    refine qB4 rfl (w1 := w1.alloc (.cells #[.string key] 9)) (v := .slice (some ⟨w1.heap.size, 0, none⟩) 1 1) (by first | (go_simp; done) | (go_simp; rfl)) ?_
                    have HKB := Aside0.mk (qA9 w1 (.cells #[.string key] 9))
                    have HBN : Aside0 (Below W.heap.size W (w1.alloc (.cells #[.string key] 9))) := ⟨qAd HBW.out _⟩
                    clear HBW; have HBW := HBN; clear HBN
                    replace HV1 := Aside0.mk (qA2 HV1.out (qAd (Below.refl w1.heap.size w1) (.cells #[.string key] 9)))
                    generalize w1.alloc (.cells #[.string key] 9) = wb at HKB HBW HV1 ⊢
                    refine hKz.out _ _ ⟨qAh HBW.out HY5.out, qAh HBW.out HKY.out⟩ (fun hHeld => ?_)
                    clear hKz Kz
                    refine norm_ (a' := ?_) ?_ ?_
                    rotate_left
                    · show Act.put _ (some 66) _ = _
                      simp only [Act.put, List.setIfInBounds_toArray, List.set_cons_zero, List.set_cons_succ, i64_w, i32_w]
                      rfl
                    exact norm_ (by simp only [putAll, Act.put, List.setIfInBounds_toArray, List.set_cons_zero, List.set_cons_succ]) (hCont (v1, w1.heap.size) _ ⟨hHeld, HBW.out, HV1.out, HKB.out⟩)
                  · refine qB4 rfl (w1 := wd.alloc (.cells #[.string key] 9)) (v := .slice (some ⟨wd.heap.size, 0, none⟩) 1 1) (by first | (go_simp; done) | (go_simp; rfl)) ?_
                    have HKB := Aside0.mk (qA9 wd (.cells #[.string key] 9))
                    have HBN : Aside0 (Below W.heap.size W (wd.alloc (.cells #[.string key] 9))) := ⟨qAd HBW.out _⟩
                    clear HBW; have HBW := HBN; clear HBN
                    generalize wd.alloc (.cells #[.string key] 9) = wb at HKB HBW ⊢
                    refine hKz.out _ _ ⟨qAh HBW.out HY5.out, qAh HBW.out HKY.out⟩ (fun hHeld => ?_)
                    clear hKz Kz
                    refine norm_ (a' := ?_) ?_ ?_
                    rotate_left
                    · show Act.put _ (some 66) _ = _
                      simp only [Act.put, List.setIfInBounds_toArray, List.set_cons_zero, List.set_cons_succ, i64_w, i32_w]
                      rfl
                    refine one_ (i := 4) (N := some 61) (bmR 18 31743) rfl rfl (by kernel_rfl) (by decide) (fun Kz hKz => ?_)
                    refine qA0 (W.heap.size) rfl (.const (.slice none 0 0)) (.tmp 60) 23 9 (.string ⟨#[]⟩) 1 16 rfl Tryd.underlying23 (by kernel_rfl) rfl (by decide) (by decide) (.slice none 0 0) (0) ([]) (a5) (j) (b5) ((n5).take j) rfl (by first | rfl | (simp [Act.eval]; done)) ⟨rfl, .inl ⟨rfl, rfl⟩⟩ (fun e => by have := HA_.out e; omega) (by simp; omega) (qBu HBW.out (qCt j HN_.out)) (fun u hu => HC_.out u (List.mem_of_mem_take hu)) (qAn HBW.out) (by omega) ?_
                    intro v1 w1 hv1 hg1 _
                    simp only [Nat.zero_add, List.nil_append] at hv1
                    have HV1 := Aside0.mk hv1
                    (try (have HKN := Aside0.mk (qBs HKB.out hg1 (by simp [Value.ownBlock])); clear HKB; have HKB := HKN; clear HKN))
                    have HBN : Aside0 (Below W.heap.size W w1) := ⟨below_grown' HBW.out hg1 (fun k hk => by cases hk)⟩
                    clear HBW; have HBW := HBN; clear HBN
                    clear hv1 hg1
                    refine hKz.out _ _ ⟨qAh HBW.out HY5.out, qAh HBW.out HKY.out⟩ (fun hHeld => ?_)
                    clear hKz Kz
                    refine norm_ (a' := ?_) ?_ ?_
                    rotate_left
                    · show Act.put _ (some 61) _ = _
                      simp only [Act.put, List.setIfInBounds_toArray, List.set_cons_zero, List.set_cons_succ, i64_w, i32_w]
                      rfl
                    exact norm_ (by simp only [putAll, Act.put, List.setIfInBounds_toArray, List.set_cons_zero, List.set_cons_succ]) (hCont (v1, wd.heap.size) _ ⟨hHeld, HBW.out, HV1.out, HKB.out⟩)
                clear HBW hHeld
                rintro ⟨v1, gb⟩ wj ⟨hHeld, hbw, hv1, hkb⟩
                have HBW := Aside0.mk hbw
                have HV1 := Aside0.mk hv1
                have HKB := Aside0.mk hkb
                clear hbw hv1 hkb
                refine norm_ (a' := ?_) ?_ ?_
                rotate_left
                · simp only [putAll, Act.put, List.setIfInBounds_toArray, List.set_cons_zero, List.set_cons_succ]
                  rfl
                refine one_ (i := 10) (N := some 67) (bmR 18 32767) rfl rfl (by kernel_rfl) (by decide) (fun Kz hKz => ?_)
                refine qA0 (W.heap.size) rfl (.tmp 61) (.tmp 66) 23 9 (.string ⟨#[]⟩) 1 16 rfl Tryd.underlying23 (by kernel_rfl) rfl (by decide) (by decide) (v1) (j) ((n5).take j) (some ⟨gb, 0, none⟩) (1) (1) ([.string key]) rfl (by first | rfl | (simp [Act.eval]; done)) HV1.out (fun e => by cases e) (rfl) (qFo HKB.out) (fun u hu => by rw [List.mem_singleton] at hu; subst hu; rfl) (qAn HBW.out) (by omega) ?_
                intro v2 w2_ hv2 hg2 _
                have HV2 := Aside0.mk hv2
                have HBN : Aside0 (Below W.heap.size W w2_) := ⟨below_grown' HBW.out hg2 (fun k hk => qA1 HV1.out k hk)⟩
                clear HBW; have HBW := HBN; clear HBN
                clear hv2 hg2
                refine hKz.out _ _ ⟨qAh HBW.out HY5.out, qAh HBW.out HKY.out⟩ (fun hHeld => ?_)
                clear hKz Kz
                refine norm_ (a' := ?_) ?_ ?_
                rotate_left
                · show Act.put _ (some 67) _ = _
                  simp only [Act.put, List.setIfInBounds_toArray, List.set_cons_zero, List.set_cons_succ, i64_w, i32_w]
                  rfl
                refine one_ (i := 15) (N := some 72) (bmR 18 65535) rfl rfl (by kernel_rfl) (by decide) (fun Kz hKz => ?_)
                refine qA0 (W.heap.size) rfl (.tmp 67) (.tmp 71) 23 9 (.string ⟨#[]⟩) 1 16 rfl Tryd.underlying23 (by kernel_rfl) rfl (by decide) (by decide) (v2) (j + 1) ((n5).take j ++ [.string key]) (if b5 = j then a5 else Option.map (fun x => x.add j) a5) (K.length - j) (b5 - j) ((n5).drop j) rfl (by first | rfl | (simp [Act.eval]; done)) HV2.out (HCA.out) (by simp; omega) (qBu HBW.out HR_.out) (fun u hu => HC_.out u (List.mem_of_mem_drop hu)) (qAn HBW.out) (by omega) ?_
                intro v3 w3 hv3 hg3 _
                rw [show j + 1 + (K.length - j) = K.length + 1 from by omega] at hv3
                obtain ⟨a6, b6, ev3⟩ := qBq hv3
                subst ev3
                have HV3 := Aside0.mk hv3
                have HBN : Aside0 (Below W.heap.size W w3) := ⟨below_grown' HBW.out hg3 (fun k hk => qA1 HV2.out k hk)⟩
                clear HBW; have HBW := HBN; clear HBN
                clear hv3 hg3
                have y5_3 := qAh HBW.out HY5.out
                have hfz3 := fun k => qAa (qAm HO1.out HBW.out) k
                have hlt3 := qAn HBW.out
                refine hKz.out _ _ ⟨qAh HBW.out HY5.out, qAh HBW.out HKY.out⟩ (fun hHeld => ?_)
                clear hKz Kz
                refine norm_ (a' := ?_) ?_ ?_
                rotate_left
                · show Act.put _ (some 72) _ = _
                  simp only [Act.put, List.setIfInBounds_toArray, List.set_cons_zero, List.set_cons_succ, i64_w, i32_w]
                  rfl
                refine pure_ (i := 16) (N := some 73) (v := ?_) (a' := ?_) (bmR 18 131071) rfl rfl (by kernel_rfl) (fun _ _ _ h => h) (Or.inl ⟨by rfl, ?_⟩) ?_ ?_
                rotate_left
                · intro w'
                  go_simp
                  with_reducible rfl
                rotate_left
                · simp only [Act.put, List.setIfInBounds_toArray, List.set_cons_zero, List.set_cons_succ, i64_w, i32_w]
                  rfl
                refine last_ (i := 17) (N := none) (bmR 18 262143) rfl rfl (by kernel_rfl) (by decide) (fun Kz hKz => ?_)
                refine skip_ (w1 := ?_) (by rfl) rfl ?_ ?_
                rotate_left
                · go_simp
                  rfl
                refine hKz.out _ _ ?_
                clear hKz Kz
                refine done_ (by kernel_rfl) ?_
                (try generalize (if b5 = j then a5 else Option.map (fun x => x.add j) a5) = AX at *)
                go_wp2_with fail
                all_goals
                  go_meet
                  exact ⟨_, _, _, HBW, HV3, ⟨⟨0, (World.drewN_zero _).symm⟩⟩⟩
            case rest =>
              obtain ⟨W1, a6, b6, HBW, HV3, hD⟩ := hcut
              obtain ⟨nd, rfl⟩ := hD.out
              clear hD hkey
              have HB4 := Aside0.mk (qAf (v := .slice a6 (K.length + 1) b6) (j := 5) (qAj HB1.out HBW.out) (show w.heap.size ≤ w.heap.size + 1 by omega))
              have HZ4 := Aside0.mk ((qAu (w := W1) (g := w.heap.size + 1) (k := w.heap.size) (j := 5) (v := .slice a6 (K.length + 1) b6) (by omega)).trans (qAm HZ1.out HBW.out))
              have HO4 := Aside0.mk (blk_set (j := 5) (v := .slice a6 (K.length + 1) b6) (qAm HO1.out HBW.out))
              have Q4 := Aside0.mk (qBy (g := w.heap.size + 1) (j := 5) (u := .slice a6 (K.length + 1) b6) (qA2 P4.out HBW.out) (by omega))
              have Q5 := Aside0.mk (qBy (g := w.heap.size + 1) (j := 5) (u := .slice a6 (K.length + 1) b6) (qBm HV3.out (show w.heap.size + 2 ≤ W.heap.size from hws1)) (by omega))
              have hws4 : w.heap.size + 2 ≤ (W1.setCell ⟨w.heap.size + 1, 5, none⟩ (.slice a6 (K.length + 1) b6)).heap.size := by
                have := qAn HBW.out
                rw [qCo]
                omega
              clear HB1 HZ1 HO1 P4 P5 HBW HV3 hws1
              have HB5 := Aside0.mk (qAc HB4.out nd)
              have HZ5 : Aside0 (((W1.setCell ⟨w.heap.size + 1, 5, none⟩ (.slice a6 (K.length + 1) b6)).drewN nd).heap[w.heap.size]? = _) := ⟨HZ4.out⟩
              have HO5 : Aside0 (((W1.setCell ⟨w.heap.size + 1, 5, none⟩ (.slice a6 (K.length + 1) b6)).drewN nd).heap[w.heap.size + 1]? = some (.cells #[.int .i64 5, .bool false, .int .i64 0, .string ⟨#[]⟩, .slice a4 K.length b4, .slice a6 (K.length + 1) b6] 25 (0, 0))) := ⟨HO4.out⟩
              have T4 := Aside0.mk (qA2 Q4.out (qAc (Below.refl _ _) nd))
              have T5 := Aside0.mk (qA2 Q5.out (qAc (Below.refl _ _) nd))
              have hws5 : w.heap.size + 2 ≤ ((W1.setCell ⟨w.heap.size + 1, 5, none⟩ (.slice a6 (K.length + 1) b6)).drewN nd).heap.size := hws4
              clear HB4 HZ4 HO4 Q4 Q5 hws4
              generalize (W1.setCell ⟨w.heap.size + 1, 5, none⟩ (.slice a6 (K.length + 1) b6)).drewN nd = W5 at *
              focus
                obtain ⟨ad1, B4, e4, B5, e5, rfl, z0, z1, z2, z3, z4, z5, g4l, g4, g5l, g5⟩ := at_T25 X1.out (i : Int) (by omega) (by omega)
                have HY := Aside0.mk (show rd_T25 l1 (i : Int) = l1[i] from by simp [rd_T25, List.getD_eq_getElem?_getD, show i < l1.length by omega])
                simp only [Int.toNat_natCast] at z0 z1 z2 z3 z4 z5
                rw [← HY.out] at HR
                generalize rd_T25 l1 (i : Int) = y at *
                have HKY := Aside0.mk (show k25.K w y [.int .i64 y.f0, .bool y.f1, .int .i64 y.f2, .string y.f3, .slice B4 y.f4.length e4, .slice B5 y.f5.length e5] from k25_mk w y g4l g4 g5l g5)
                clear g4l g4 g5l g5 HY
                replace z0 := qAh HB5.out z0
                replace z1 := qAh HB5.out z1
                replace z2 := qAh HB5.out z2
                replace z3 := qAh HB5.out z3
                replace z4 := qAh HB5.out z4
                replace z5 := qAh HB5.out z5
                have HRV : Aside0 (Reps (k25.K w) 6 (V.take j ++ y :: V.drop j) (n4.take (j * 6) ++ [.int .i64 y.f0, .bool y.f1, .int .i64 y.f2, .string y.f3, .slice B4 y.f4.length e4, .slice B5 y.f5.length e5] ++ n4.drop (j * 6))) := ⟨by rw [List.append_assoc]; exact qB8 R4.out j (by have := hKV.out; omega) HKY.out rfl⟩
                have HRK : Aside0 (Reps (Kd.string.K w) 1 (K.take j ++ key :: K.drop j) (n5.take j ++ [.string key] ++ n5.drop j)) := ⟨by have h1 := qB8 (p := key) (c := [.string key]) R5.out j (by omega) (by exact rfl) rfl; rw [Nat.mul_one] at h1; rw [List.append_assoc]; exact h1⟩
                obtain ⟨y0, y1, y2, y3, y4, y5⟩ := qAq HO5.out
                clear y0 y1 y2 y3 y5
                have hi0 : 0 ≤ (i : Int) := by omega
                have hj0 : 0 ≤ (j : Int) := by omega
                have hjb : (j : Int) ≤ (b4 : Int) := by omega
                have hjc : (j : Int) ≤ (K.length : Int) := by omega
                have hKb : (K.length : Int) ≤ (b4 : Int) := by omega
                have HBW := Aside0.mk (Below.refl W5.heap.size W5)
                have HY4 := Aside0.mk y4
                have HZ0 := Aside0.mk z0
                have HZ1 := Aside0.mk z1
                have HZ2 := Aside0.mk z2
                have HZ3 := Aside0.mk z3
                have HZ4 := Aside0.mk z4
                have HZ5' := Aside0.mk z5
                have HN_ := Aside0.mk (qD2 T4.out)
                have HA_ := Aside0.mk (fun e : a4 = none => show K.length = 0 from by
                  subst e
                  rcases T4.out.2 with ⟨e1, e2⟩ | ⟨g, cap, cur, he, _⟩
                  · exact e2
                  · cases he)
                have HC_ := Aside0.mk (qCe (d := k25) (by decide) R4.out)
                have hL4 : n4.length = K.length * 6 := T4.out.1
                have HR_ := Aside0.mk (qFn (A := if b4 = j then a4 else Option.map (fun x => x.add (j * 6)) a4) T4.out j (by omega) (fun ad ha => by
                  split at ha
                  · exact .inl ⟨by omega, ha⟩
                  · rcases T4.out.2 with ⟨e1, e2⟩ | ⟨g, cap, cur, he, _⟩
                    · injection e1 with e3 _ _
                      subst e3
                      cases ha
                    · injection he with e3 _ _
                      subst e3
                      cases ha
                      refine .inr ⟨g, rfl, ?_⟩
                      simp only [Addr.add, Nat.zero_add]; split <;> first | rfl | (rename_i h_; rw [h_])))
                have HCA := Aside0.mk (fun e : (if b4 = j then a4 else Option.map (fun x => x.add (j * 6)) a4) = none => show K.length - j = 0 from by
                  have h0 : a4 = none := by
                    split at e
                    · exact e
                    · cases a4 with
                      | none => rfl
                      | some _ => cases e
                  have := HA_.out h0
                  omega)
                have y4_0a : ∀ o, (W5.alloc o).cell? ⟨w.heap.size + 1, 4, none⟩ = some (.slice a4 K.length b4) := fun o => qAh (qAd HBW.out o) HY4.out
                have z0_0a : ∀ o, (W5.alloc o).cell? (ad1.add (i * 6)) = some (.int .i64 y.f0) := fun o => qAh (qAd HBW.out o) HZ0.out
                have z1_0a : ∀ o, (W5.alloc o).cell? ⟨(ad1.add (i * 6)).block, (ad1.add (i * 6)).off + 1, none⟩ = some (.bool y.f1) := fun o => qAh (qAd HBW.out o) HZ1.out
                have z2_0a : ∀ o, (W5.alloc o).cell? ⟨(ad1.add (i * 6)).block, (ad1.add (i * 6)).off + 2, none⟩ = some (.int .i64 y.f2) := fun o => qAh (qAd HBW.out o) HZ2.out
                have z3_0a : ∀ o, (W5.alloc o).cell? ⟨(ad1.add (i * 6)).block, (ad1.add (i * 6)).off + 3, none⟩ = some (.string y.f3) := fun o => qAh (qAd HBW.out o) HZ3.out
                have z4_0a : ∀ o, (W5.alloc o).cell? ⟨(ad1.add (i * 6)).block, (ad1.add (i * 6)).off + 4, none⟩ = some (.slice B4 y.f4.length e4) := fun o => qAh (qAd HBW.out o) HZ4.out
                have z5_0a : ∀ o, (W5.alloc o).cell? ⟨(ad1.add (i * 6)).block, (ad1.add (i * 6)).off + 5, none⟩ = some (.slice B5 y.f5.length e5) := fun o => qAh (qAd HBW.out o) HZ5'.out
                go_wp2_with fail
                refine start_ (n := 18) (S := fun w' => w'.cell? ⟨w.heap.size + 1, 4, none⟩ = some (.slice a4 K.length b4) ∧ w'.cell? (ad1.add (i * 6)) = some (.int .i64 y.f0) ∧ w'.cell? (⟨(ad1.add (i * 6)).block, (ad1.add (i * 6)).off + 1, none⟩) = some (.bool y.f1) ∧ w'.cell? (⟨(ad1.add (i * 6)).block, (ad1.add (i * 6)).off + 2, none⟩) = some (.int .i64 y.f2) ∧ w'.cell? (⟨(ad1.add (i * 6)).block, (ad1.add (i * 6)).off + 3, none⟩) = some (.string y.f3) ∧ w'.cell? (⟨(ad1.add (i * 6)).block, (ad1.add (i * 6)).off + 4, none⟩) = some (.slice B4 y.f4.length e4) ∧ w'.cell? (⟨(ad1.add (i * 6)).block, (ad1.add (i * 6)).off + 5, none⟩) = some (.slice B5 y.f5.length e5)) (ds := [17]) #[false, false, false, false, false, false, false, false, false, false, false, false, false, false, false, false, false, false] (by kernel_rfl) rfl rfl ⟨y4, z0, z1, z2, z3, z4, z5⟩ (fun hHeld => ?_)
                have HBW := Aside0.mk (qAe (Below.refl W5.heap.size W5))
                generalize W5.drew = wd at HBW hHeld ⊢
                refine pure_ (i := 0) (N := some 74) (v := ?_) (a' := ?_) (bmR 18 1) rfl rfl (by kernel_rfl) (fun _ _ _ h => h) (Or.inl ⟨by rfl, ?_⟩) ?_ ?_
                rotate_left
                · intro w'
                  go_simp
                  with_reducible rfl
                rotate_left
                · simp only [Act.put, List.setIfInBounds_toArray, List.set_cons_zero, List.set_cons_succ, i64_w, i32_w]
                  rfl
                refine take_ (i := 1) (N := some 75) (v := ?_) (a' := ?_) (bmR 18 3) rfl rfl (by kernel_rfl) (fun _ _ _ h => h) (Or.inl ⟨by rfl, ?_⟩) hHeld ?_ ?_
                rotate_left
                · rintro w' ⟨s0, s1, s2, s3, s4, s5, s6⟩
                  go_simp
                  with_reducible rfl
                rotate_left
                · simp only [Act.put, List.setIfInBounds_toArray, List.set_cons_zero, List.set_cons_succ, i64_w, i32_w]
                  rfl
                refine pure_ (i := 2) (N := some 76) (v := ?_) (a' := ?_) (bmR 18 7) rfl rfl (by kernel_rfl) (fun _ _ _ h => h) (Or.inl ⟨by rfl, ?_⟩) ?_ ?_
                rotate_left
                · intro w'
                  go_simp
                  with_reducible rfl
                rotate_left
                · simp only [Act.put, List.setIfInBounds_toArray, List.set_cons_zero, List.set_cons_succ, i64_w, i32_w]
                  rfl
                refine pure_ (i := 3) (N := some 77) (v := ?_) (a' := ?_) (bmR 18 15) rfl rfl (by kernel_rfl) (fun _ _ _ h => h) (Or.inl ⟨by rfl, ?_⟩) ?_ ?_
                rotate_left
                · intro w'
                  go_simp
                  with_reducible rfl
                rotate_left
                · simp only [Act.put, List.setIfInBounds_toArray, List.set_cons_zero, List.set_cons_succ, i64_w, i32_w]
                  rfl
                refine pure_ (i := 5) (N := some 79) (v := ?_) (a' := ?_) (bmR 18 47) rfl rfl (by kernel_rfl) (fun _ _ _ h => h) (Or.inl ⟨by rfl, ?_⟩) ?_ ?_
                rotate_left
                · intro w'
                  go_simp
                  with_reducible rfl
                rotate_left
                · simp only [Act.put, List.setIfInBounds_toArray, List.set_cons_zero, List.set_cons_succ, i64_w, i32_w]
                  rfl
                refine pure_ (i := 6) (N := some 80) (v := ?_) (a' := ?_) (bmR 18 111) rfl rfl (by kernel_rfl) (fun _ _ _ h => h) (Or.inl ⟨by rfl, ?_⟩) ?_ ?_
                rotate_left
                · intro w'
                  go_simp
                  with_reducible rfl
                rotate_left
                · simp only [Act.put, List.setIfInBounds_toArray, List.set_cons_zero, List.set_cons_succ, i64_w, i32_w]
                  rfl
                refine pure_ (i := 7) (N := some 81) (v := ?_) (a' := ?_) (bmR 18 239) rfl rfl (by kernel_rfl) (fun _ _ _ h => h) (Or.inl ⟨by rfl, ?_⟩) ?_ ?_
                rotate_left
                · intro w'
                  go_simp
                  with_reducible rfl
                rotate_left
                · simp only [Act.put, List.setIfInBounds_toArray, List.set_cons_zero, List.set_cons_succ, i64_w, i32_w]
                  rfl
                refine take_ (i := 8) (N := some 82) (v := ?_) (a' := ?_) (bmR 18 495) rfl rfl (by kernel_rfl) (fun _ _ _ h => h) (Or.inl ⟨by rfl, ?_⟩) hHeld ?_ ?_
                rotate_left
                · rintro w' ⟨s0, s1, s2, s3, s4, s5, s6⟩
                  go_simp
                  with_reducible rfl
                rotate_left
                · simp only [Act.put, List.setIfInBounds_toArray, List.set_cons_zero, List.set_cons_succ, i64_w, i32_w]
                  rfl
                refine pure_ (i := 11) (N := some 85) (v := ?_) (a' := ?_) (bmR 18 2543) rfl rfl (by kernel_rfl) (fun _ _ _ h => h) (Or.inl ⟨by rfl, ?_⟩) ?_ ?_
                rotate_left
                · intro w'
                  go_simp
                  with_reducible rfl
                rotate_left
                · simp only [Act.put, List.setIfInBounds_toArray, List.set_cons_zero, List.set_cons_succ, i64_w, i32_w]
                  rfl
                refine take_ (i := 12) (N := some 86) (v := ?_) (a' := ?_) (bmR 18 6639) rfl rfl (by kernel_rfl) (fun _ _ _ h => h) (Or.inl ⟨by rfl, ?_⟩) hHeld ?_ ?_
                rotate_left
                · rintro w' ⟨s0, s1, s2, s3, s4, s5, s6⟩
                  go_simp
                  with_reducible rfl
                rotate_left
                · simp only [Act.put, List.setIfInBounds_toArray, List.set_cons_zero, List.set_cons_succ, i64_w, i32_w]
                  rfl
                refine pure_ (i := 13) (N := some 87) (v := ?_) (a' := ?_) (bmR 18 14831) rfl rfl (by kernel_rfl) (fun _ _ _ h => h) (Or.inl ⟨by rfl, ?_⟩) ?_ ?_
                rotate_left
                · intro w'
                  go_simp
                  with_reducible rfl
                rotate_left
                · simp only [Act.put, List.setIfInBounds_toArray, List.set_cons_zero, List.set_cons_succ, i64_w, i32_w]
                  rfl
                refine pure_ (i := 14) (N := some 88) (v := ?_) (a' := ?_) (bmR 18 31215) rfl rfl (by kernel_rfl) (fun _ _ _ h => h) (Or.inl ⟨by rfl, ?_⟩) ?_ ?_
                rotate_left
                · intro w'
                  go_simp
                  with_reducible rfl
                rotate_left
                · simp only [Act.put, List.setIfInBounds_toArray, List.set_cons_zero, List.set_cons_succ, i64_w, i32_w]
                  rfl
                refine join_ (σ := Value × Nat) 4 (bmR 18 31743) (fun s_ => [(78, s_.1), (83, .slice (some ⟨s_.2, 0, none⟩) 1 1)]) (fun s_ w' => (w'.cell? ⟨w.heap.size + 1, 4, none⟩ = some (.slice a4 K.length b4) ∧ w'.cell? (ad1.add (i * 6)) = some (.int .i64 y.f0) ∧ w'.cell? (⟨(ad1.add (i * 6)).block, (ad1.add (i * 6)).off + 1, none⟩) = some (.bool y.f1) ∧ w'.cell? (⟨(ad1.add (i * 6)).block, (ad1.add (i * 6)).off + 2, none⟩) = some (.int .i64 y.f2) ∧ w'.cell? (⟨(ad1.add (i * 6)).block, (ad1.add (i * 6)).off + 3, none⟩) = some (.string y.f3) ∧ w'.cell? (⟨(ad1.add (i * 6)).block, (ad1.add (i * 6)).off + 4, none⟩) = some (.slice B4 y.f4.length e4) ∧ w'.cell? (⟨(ad1.add (i * 6)).block, (ad1.add (i * 6)).off + 5, none⟩) = some (.slice B5 y.f5.length e5)) ∧ Below W5.heap.size W5 w' ∧ w'.ownsRow W5.heap.size 25 6 s_.1 j ((n4).take (j * 6)) ∧ w'.heap[s_.2]? = some (.cells #[.int .i64 y.f0, .bool y.f1, .int .i64 y.f2, .string y.f3, .slice B4 y.f4.length e4, .slice B5 y.f5.length e5] 25 (0, 0))) ?_ ?_
                rotate_left
                · intro hCont
                  refine two_ (i := 4) (j := 9) (Ni := some 78) (Nj := some 83) (bmR 18 31231) (bmR 18 31727) rfl rfl rfl rfl (by kernel_rfl) (by decide) (by decide) (fun Kz hKz => ?_) (fun Kz hKz => ?_)
                  · refine qA0 (W5.heap.size) rfl (.const (.slice none 0 0)) (.tmp 77) 22 25 (.agg #[(.int .i64 0), (.bool false), (.int .i64 0), (.string ⟨#[]⟩), (.slice none 0 0), (.slice none 0 0)]) 6 88 rfl Tryd.underlying22 (by kernel_rfl) rfl (by decide) (by decide) (.slice none 0 0) (0) ([]) (a4) (j) (b4) ((n4).take (j * 6)) rfl (by first | rfl | (simp [Act.eval]; done)) ⟨rfl, .inl ⟨rfl, rfl⟩⟩ (fun e => by have := HA_.out e; omega) (by simp; omega) (qBu HBW.out (qCt (j * 6) HN_.out)) (fun u hu => HC_.out u (List.mem_of_mem_take hu)) (qAn HBW.out) (by omega) ?_
                    intro v1 w1 hv1 hg1 _
                    simp only [Nat.zero_add, List.nil_append] at hv1
                    have HV1 := Aside0.mk hv1
                    (try (have HKN := Aside0.mk (qBs HKB.out hg1 (by simp [Value.ownBlock])); clear HKB; have HKB := HKN; clear HKN))
                    have HBN : Aside0 (Below W5.heap.size W5 w1) := ⟨below_grown' HBW.out hg1 (fun k hk => by cases hk)⟩
                    clear HBW; have HBW := HBN; clear HBN
                    clear hv1 hg1
                    refine hKz.out _ _ ⟨qAh HBW.out HY4.out, qAh HBW.out HZ0.out, qAh HBW.out HZ1.out, qAh HBW.out HZ2.out, qAh HBW.out HZ3.out, qAh HBW.out HZ4.out, qAh HBW.out HZ5'.out⟩ (fun hHeld => ?_)
                    clear hKz Kz
                    refine norm_ (a' := ?_) ?_ ?_
                    rotate_left
                    · show Act.put _ (some 78) _ = _
                      simp only [Act.put, List.setIfInBounds_toArray, List.set_cons_zero, List.set_cons_succ, i64_w, i32_w]
                      rfl
                    refine one_ (i := 9) (N := some 83) (bmR 18 31743) rfl rfl (by kernel_rfl) (by decide) (fun Kz hKz => ?_)
                    refine qB4 rfl (w1 := w1.alloc (.cells #[.int .i64 y.f0, .bool y.f1, .int .i64 y.f2, .string y.f3, .slice B4 y.f4.length e4, .slice B5 y.f5.length e5] 25)) (v := .slice (some ⟨w1.heap.size, 0, none⟩) 1 1) (by first | (go_simp; done) | (go_simp; rfl)) ?_
                    have HKB := Aside0.mk (qA9 w1 (.cells #[.int .i64 y.f0, .bool y.f1, .int .i64 y.f2, .string y.f3, .slice B4 y.f4.length e4, .slice B5 y.f5.length e5] 25))
                    have HBN : Aside0 (Below W5.heap.size W5 (w1.alloc (.cells #[.int .i64 y.f0, .bool y.f1, .int .i64 y.f2, .string y.f3, .slice B4 y.f4.length e4, .slice B5 y.f5.length e5] 25))) := ⟨qAd HBW.out _⟩
                    clear HBW; have HBW := HBN; clear HBN
                    replace HV1 := Aside0.mk (qA2 HV1.out (qAd (Below.refl w1.heap.size w1) (.cells #[.int .i64 y.f0, .bool y.f1, .int .i64 y.f2, .string y.f3, .slice B4 y.f4.length e4, .slice B5 y.f5.length e5] 25)))
                    generalize w1.alloc (.cells #[.int .i64 y.f0, .bool y.f1, .int .i64 y.f2, .string y.f3, .slice B4 y.f4.length e4, .slice B5 y.f5.length e5] 25) = wb at HKB HBW HV1 ⊢
                    refine hKz.out _ _ ⟨qAh HBW.out HY4.out, qAh HBW.out HZ0.out, qAh HBW.out HZ1.out, qAh HBW.out HZ2.out, qAh HBW.out HZ3.out, qAh HBW.out HZ4.out, qAh HBW.out HZ5'.out⟩ (fun hHeld => ?_)
                    clear hKz Kz
                    refine norm_ (a' := ?_) ?_ ?_
                    rotate_left
                    · show Act.put _ (some 83) _ = _
                      simp only [Act.put, List.setIfInBounds_toArray, List.set_cons_zero, List.set_cons_succ, i64_w, i32_w]
                      rfl
                    exact norm_ (by simp only [putAll, Act.put, List.setIfInBounds_toArray, List.set_cons_zero, List.set_cons_succ]) (hCont (v1, w1.heap.size) _ ⟨hHeld, HBW.out, HV1.out, HKB.out⟩)
                  · refine qB4 rfl (w1 := wd.alloc (.cells #[.int .i64 y.f0, .bool y.f1, .int .i64 y.f2, .string y.f3, .slice B4 y.f4.length e4, .slice B5 y.f5.length e5] 25)) (v := .slice (some ⟨wd.heap.size, 0, none⟩) 1 1) (by first | (go_simp; done) | (go_simp; rfl)) ?_
                    have HKB := Aside0.mk (qA9 wd (.cells #[.int .i64 y.f0, .bool y.f1, .int .i64 y.f2, .string y.f3, .slice B4 y.f4.length e4, .slice B5 y.f5.length e5] 25))
                    have HBN : Aside0 (Below W5.heap.size W5 (wd.alloc (.cells #[.int .i64 y.f0, .bool y.f1, .int .i64 y.f2, .string y.f3, .slice B4 y.f4.length e4, .slice B5 y.f5.length e5] 25))) := ⟨qAd HBW.out _⟩
                    clear HBW; have HBW := HBN; clear HBN
                    generalize wd.alloc (.cells #[.int .i64 y.f0, .bool y.f1, .int .i64 y.f2, .string y.f3, .slice B4 y.f4.length e4, .slice B5 y.f5.length e5] 25) = wb at HKB HBW ⊢
                    refine hKz.out _ _ ⟨qAh HBW.out HY4.out, qAh HBW.out HZ0.out, qAh HBW.out HZ1.out, qAh HBW.out HZ2.out, qAh HBW.out HZ3.out, qAh HBW.out HZ4.out, qAh HBW.out HZ5'.out⟩ (fun hHeld => ?_)
                    clear hKz Kz
                    refine norm_ (a' := ?_) ?_ ?_
                    rotate_left
                    · show Act.put _ (some 83) _ = _
                      simp only [Act.put, List.setIfInBounds_toArray, List.set_cons_zero, List.set_cons_succ, i64_w, i32_w]
                      rfl
                    refine one_ (i := 4) (N := some 78) (bmR 18 31743) rfl rfl (by kernel_rfl) (by decide) (fun Kz hKz => ?_)
                    refine qA0 (W5.heap.size) rfl (.const (.slice none 0 0)) (.tmp 77) 22 25 (.agg #[(.int .i64 0), (.bool false), (.int .i64 0), (.string ⟨#[]⟩), (.slice none 0 0), (.slice none 0 0)]) 6 88 rfl Tryd.underlying22 (by kernel_rfl) rfl (by decide) (by decide) (.slice none 0 0) (0) ([]) (a4) (j) (b4) ((n4).take (j * 6)) rfl (by first | rfl | (simp [Act.eval]; done)) ⟨rfl, .inl ⟨rfl, rfl⟩⟩ (fun e => by have := HA_.out e; omega) (by simp; omega) (qBu HBW.out (qCt (j * 6) HN_.out)) (fun u hu => HC_.out u (List.mem_of_mem_take hu)) (qAn HBW.out) (by omega) ?_
                    intro v1 w1 hv1 hg1 _
                    simp only [Nat.zero_add, List.nil_append] at hv1
                    have HV1 := Aside0.mk hv1
                    (try (have HKN := Aside0.mk (qBs HKB.out hg1 (by simp [Value.ownBlock])); clear HKB; have HKB := HKN; clear HKN))
                    have HBN : Aside0 (Below W5.heap.size W5 w1) := ⟨below_grown' HBW.out hg1 (fun k hk => by cases hk)⟩
                    clear HBW; have HBW := HBN; clear HBN
                    clear hv1 hg1
                    refine hKz.out _ _ ⟨qAh HBW.out HY4.out, qAh HBW.out HZ0.out, qAh HBW.out HZ1.out, qAh HBW.out HZ2.out, qAh HBW.out HZ3.out, qAh HBW.out HZ4.out, qAh HBW.out HZ5'.out⟩ (fun hHeld => ?_)
                    clear hKz Kz
                    refine norm_ (a' := ?_) ?_ ?_
                    rotate_left
                    · show Act.put _ (some 78) _ = _
                      simp only [Act.put, List.setIfInBounds_toArray, List.set_cons_zero, List.set_cons_succ, i64_w, i32_w]
                      rfl
                    exact norm_ (by simp only [putAll, Act.put, List.setIfInBounds_toArray, List.set_cons_zero, List.set_cons_succ]) (hCont (v1, wd.heap.size) _ ⟨hHeld, HBW.out, HV1.out, HKB.out⟩)
                clear HBW hHeld
                rintro ⟨v1, gb⟩ wj ⟨hHeld, hbw, hv1, hkb⟩
                have HBW := Aside0.mk hbw
                have HV1 := Aside0.mk hv1
                have HKB := Aside0.mk hkb
                clear hbw hv1 hkb
                refine norm_ (a' := ?_) ?_ ?_
                rotate_left
                · simp only [putAll, Act.put, List.setIfInBounds_toArray, List.set_cons_zero, List.set_cons_succ]
                  rfl
                refine one_ (i := 10) (N := some 84) (bmR 18 32767) rfl rfl (by kernel_rfl) (by decide) (fun Kz hKz => ?_)
                refine qA0 (W5.heap.size) rfl (.tmp 78) (.tmp 83) 22 25 (.agg #[(.int .i64 0), (.bool false), (.int .i64 0), (.string ⟨#[]⟩), (.slice none 0 0), (.slice none 0 0)]) 6 88 rfl Tryd.underlying22 (by kernel_rfl) rfl (by decide) (by decide) (v1) (j) ((n4).take (j * 6)) (some ⟨gb, 0, none⟩) (1) (1) ([.int .i64 y.f0, .bool y.f1, .int .i64 y.f2, .string y.f3, .slice B4 y.f4.length e4, .slice B5 y.f5.length e5]) rfl (by first | rfl | (simp [Act.eval]; done)) HV1.out (fun e => by cases e) (rfl) (qFo HKB.out) (k25.K_one HKY.out) (qAn HBW.out) (by omega) ?_
                intro v2 w2_ hv2 hg2 _
                have HV2 := Aside0.mk hv2
                have HBN : Aside0 (Below W5.heap.size W5 w2_) := ⟨below_grown' HBW.out hg2 (fun k hk => qA1 HV1.out k hk)⟩
                clear HBW; have HBW := HBN; clear HBN
                clear hv2 hg2
                refine hKz.out _ _ ⟨qAh HBW.out HY4.out, qAh HBW.out HZ0.out, qAh HBW.out HZ1.out, qAh HBW.out HZ2.out, qAh HBW.out HZ3.out, qAh HBW.out HZ4.out, qAh HBW.out HZ5'.out⟩ (fun hHeld => ?_)
                clear hKz Kz
                refine norm_ (a' := ?_) ?_ ?_
                rotate_left
                · show Act.put _ (some 84) _ = _
                  simp only [Act.put, List.setIfInBounds_toArray, List.set_cons_zero, List.set_cons_succ, i64_w, i32_w]
                  rfl
                refine one_ (i := 15) (N := some 89) (bmR 18 65535) rfl rfl (by kernel_rfl) (by decide) (fun Kz hKz => ?_)
                refine qA0 (W5.heap.size) rfl (.tmp 84) (.tmp 88) 22 25 (.agg #[(.int .i64 0), (.bool false), (.int .i64 0), (.string ⟨#[]⟩), (.slice none 0 0), (.slice none 0 0)]) 6 88 rfl Tryd.underlying22 (by kernel_rfl) rfl (by decide) (by decide) (v2) (j + 1) ((n4).take (j * 6) ++ [.int .i64 y.f0, .bool y.f1, .int .i64 y.f2, .string y.f3, .slice B4 y.f4.length e4, .slice B5 y.f5.length e5]) (if b4 = j then a4 else Option.map (fun x => x.add (j * 6)) a4) (K.length - j) (b4 - j) ((n4).drop (j * 6)) rfl (by first | rfl | (simp [Act.eval]; done)) HV2.out (HCA.out) (by simp; omega) (qBu HBW.out HR_.out) (fun u hu => HC_.out u (List.mem_of_mem_drop hu)) (qAn HBW.out) (by omega) ?_
                intro v3 w3 hv3 hg3 _
                rw [show j + 1 + (K.length - j) = K.length + 1 from by omega] at hv3
                obtain ⟨a7, b7, ev3⟩ := qBq hv3
                subst ev3
                have HV3 := Aside0.mk hv3
                have HBN : Aside0 (Below W5.heap.size W5 w3) := ⟨below_grown' HBW.out hg3 (fun k hk => qA1 HV2.out k hk)⟩
                clear HBW; have HBW := HBN; clear HBN
                clear hv3 hg3
                have y4_3 := qAh HBW.out HY4.out
                have hfz3 := fun k => qAa (qAm HO5.out HBW.out) k
                have hlt3 := qAn HBW.out
                refine hKz.out _ _ ⟨qAh HBW.out HY4.out, qAh HBW.out HZ0.out, qAh HBW.out HZ1.out, qAh HBW.out HZ2.out, qAh HBW.out HZ3.out, qAh HBW.out HZ4.out, qAh HBW.out HZ5'.out⟩ (fun hHeld => ?_)
                clear hKz Kz
                refine norm_ (a' := ?_) ?_ ?_
                rotate_left
                · show Act.put _ (some 89) _ = _
                  simp only [Act.put, List.setIfInBounds_toArray, List.set_cons_zero, List.set_cons_succ, i64_w, i32_w]
                  rfl
                refine pure_ (i := 16) (N := some 90) (v := ?_) (a' := ?_) (bmR 18 131071) rfl rfl (by kernel_rfl) (fun _ _ _ h => h) (Or.inl ⟨by rfl, ?_⟩) ?_ ?_
                rotate_left
                · intro w'
                  go_simp
                  with_reducible rfl
                rotate_left
                · simp only [Act.put, List.setIfInBounds_toArray, List.set_cons_zero, List.set_cons_succ, i64_w, i32_w]
                  rfl
                refine last_ (i := 17) (N := none) (bmR 18 262143) rfl rfl (by kernel_rfl) (by decide) (fun Kz hKz => ?_)
                refine skip_ (w1 := ?_) (by rfl) rfl ?_ ?_
                rotate_left
                · go_simp
                  rfl
                refine hKz.out _ _ ?_
                clear hKz Kz
                refine done_ (by kernel_rfl) ?_
                have HB7 := Aside0.mk (qAf (v := .slice a7 (K.length + 1) b7) (j := 4) (qAj HB5.out HBW.out) (show w.heap.size ≤ w.heap.size + 1 by omega))
                have HZ7 := Aside0.mk ((qAu (w := w3) (g := w.heap.size + 1) (k := w.heap.size) (j := 4) (v := .slice a7 (K.length + 1) b7) (by omega)).trans (qAm HZ5.out HBW.out))
                have HO7 := Aside0.mk (blk_set (j := 4) (v := .slice a7 (K.length + 1) b7) (qAm HO5.out HBW.out))
                have U4 := Aside0.mk (qBy (g := w.heap.size + 1) (j := 4) (u := .slice a7 (K.length + 1) b7) (qBm HV3.out hws5) (by omega))
                have U5 := Aside0.mk (qBy (g := w.heap.size + 1) (j := 4) (u := .slice a7 (K.length + 1) b7) (qA2 T5.out HBW.out) (by omega))
                have hsz7 := qCo w3 ⟨w.heap.size + 1, 4, none⟩ (.slice a7 (K.length + 1) b7)
                have hlk : (K.take j ++ key :: K.drop j).length = K.length + 1 := by simp; omega
                have hlv : (V.take j ++ y :: V.drop j).length = K.length + 1 := by have := hKV.out; simp; omega
                (try generalize (if b4 = j then a4 else Option.map (fun x => x.add (j * 6)) a4) = AX at *)
                go_wp2_with fail
                all_goals
                  go_roundw
                  case rel => exact ⟨i + 1, K.take j ++ key :: K.drop j, V.take j ++ y :: V.drop j, _, _, _, _, by go_num, by omega, ⟨by rw [hlk, hlv]⟩, by omega, HRJ, HB7, by rw [hsz7]; have := qAn HBW.out; omega, HZ7, ⟨HO7.out⟩, by rw [hlk]; exact U4, by rw [hlk]; exact U5, HRV, HRK, HR⟩
                  case measure => simp [intOf]; omega
    · have hend : ofP (l0.drop i) (l1.drop i) K V = (K, V) := by
        by_cases e : i < l0.length
        · rw [show l1.drop i = [] from List.drop_of_length_le (by omega)]
          cases l0.drop i <;> rfl
        · rw [show l0.drop i = [] from List.drop_of_length_le (by omega)]
          cases l1.drop i <;> rfl
      have hkv := hend.symm.trans H.out
      have hM := HM.out
      have h := H0.out
      rw [← hkv] at hM h
      dsimp only at hM h
      unfold ofR at h
      clear H HM H0 hkv hend
      generalize (mayV 16 ⟨5, false, 0, ByteArray.empty, V, K⟩ 0).2 = b1 at *
      have M1 := Aside0.mk hM
      have HH := Aside0.mk h
      clear hM h
      have O4' := Aside0.mk (show wr.ownsRow (w.heap.size + 2) 25 6 s4 V.length n4 from by rw [hKV.out]; exact O4.out)
      obtain ⟨a5, b5, rfl, hC5⟩ := qA4 O5.out (R5.out.imp_ (fun p c h => Kd.string.K_below HB.out h)) rfl
      obtain ⟨a4, b4, rfl, hC4⟩ := qA4 O4'.out (R4.out.imp_ (fun p c h => k25.K_below HB.out h)) rfl
      have hcap5 := qCb O5.out
      have hcap4 := qCb O4'.out
      have HC4 : Aside0 (k25.C wr a4 V.length V) := ⟨hC4⟩
      have HC5 : Aside0 (Kd.string.C wr a5 K.length K) := ⟨hC5⟩
      clear hC4 hC5 O4
      obtain ⟨y0, y1, y2, y3, y4, y5⟩ := qAq HO.out
      obtain ⟨c0b, hc0b⟩ : ∃ b, decide ((i : Int) < (l0.length : Int)) = b := ⟨_, rfl⟩
      obtain ⟨c1b, hc1b⟩ : ∃ b, decide ((i : Int) < (l1.length : Int)) = b := ⟨_, rfl⟩
      have hcb : (c0b && c1b) = false := by
        subst hc0b hc1b
        rw [Bool.and_eq_false_iff, decide_eq_false_iff_not, decide_eq_false_iff_not]
        omega
      have hc0n : decide (i < l0.length) = c0b := by rw [← hc0b]; simp
      have hc1n : decide (i < l1.length) = c1b := by rw [← hc1b]; simp
      have hi0 : 0 ≤ (i : Int) := by omega
      clear hlt
      cases c0b <;> cases c1b <;> first
      | (simp at hcb; done)
      | (go_wp2_with fail
         refine (hogsheadref15_May.calls kM 5 false 0 ByteArray.empty a4 b4 V a5 b5 K b1 wr HC4.out hcap4 HC5.out hcap5 M1.out).mono ?_
         rintro e w3 ⟨rfl, hb3⟩
         have HB3 := Aside0.mk (qAj HB.out hb3)
         have HZ3 := Aside0.mk (qAm HZ.out hb3)
         have HO3 := Aside0.mk (qAm HO.out hb3)
         have D4 := Aside0.mk (qA2 O4'.out hb3)
         have D5 := Aside0.mk (qA2 O5.out hb3)
         clear hb3 y0 y1 y2 y3 y4 y5 HB HZ HO HC4 HC5 M1 O4' O5
         obtain ⟨y0, y1, y2, y3, y4, y5⟩ := qAq HO3.out
         obtain ⟨p0, p1, p2, p3, p4, p5⟩ := qAq HZ3.out
         have pf := fun k => qAa HZ3.out k
         cases b1 with
         | false =>
           have h := HH.out
           simp only [Bool.false_eq_true, if_false, reduceIte] at h
           cases h
           go_wp2_with fail
           have HF := Aside0.mk (qB6 (Value.int IntKind.i64 0) (Value.bool false) (Value.int IntKind.i64 0) (Value.string ⟨#[]⟩) (Value.slice none 0 0) (Value.slice none 0 0) HZ3.out)
           have HFB := Aside0.mk (qBf (g := w.heap.size) (Value.int IntKind.i64 0) (Value.bool false) (Value.int IntKind.i64 0) (Value.string ⟨#[]⟩) (Value.slice none 0 0) (Value.slice none 0 0) HB3.out (Nat.le_refl _) 0)
           simp only [Nat.zero_add] at HFB
           clear p0 p1 p2 p3 p4 p5 pf
           generalize (((((w3.setCell { block := w.heap.size, off := 0 } (Value.int IntKind.i64 0)).setCell { block := w.heap.size, off := 1 } (Value.bool false)).setCell { block := w.heap.size, off := 2 } (Value.int IntKind.i64 0)).setCell { block := w.heap.size, off := 3 } (Value.string ⟨#[]⟩)).setCell { block := w.heap.size, off := 4 } (Value.slice none 0 0)).setCell { block := w.heap.size, off := 5 } (Value.slice none 0 0) = WF at *
           obtain ⟨q0, q1, q2, q3, q4, q5⟩ := qAq HF.out
           refine bodyPost_ret (v := .agg #[(Value.int IntKind.i64 0), (Value.bool false), (Value.int IntKind.i64 0), (Value.string ⟨#[]⟩), (Value.slice none 0 0), (Value.slice none 0 0)]) (by simp [results, Tryd.results31, go_sem, q0, q1, q2, q3, q4, q5]) rfl ⟨_, _, _, _, rfl, Nat.le_refl _, Kd.C_nil _ _, Nat.le_refl _, Kd.C_nil _ _, HFB.out⟩
         | true =>
           have h := HH.out
           simp only [if_true, reduceIte] at h
           cases h
           go_wp2_with fail
           have HF := Aside0.mk (qB6 (Value.int IntKind.i64 5) (Value.bool false) (Value.int IntKind.i64 0) (Value.string ⟨#[]⟩) (Value.slice a4 r5.length b4) (Value.slice a5 r6.length b5) HZ3.out)
           have HFB := Aside0.mk (qBf (g := w.heap.size) (Value.int IntKind.i64 5) (Value.bool false) (Value.int IntKind.i64 0) (Value.string ⟨#[]⟩) (Value.slice a4 r5.length b4) (Value.slice a5 r6.length b5) HB3.out (Nat.le_refl _) 0)
           have HFO := Aside0.mk (fun k (h : k ≠ w.heap.size) => qBx (w := w3) (g := w.heap.size) (k := k) (Value.int IntKind.i64 5) (Value.bool false) (Value.int IntKind.i64 0) (Value.string ⟨#[]⟩) (Value.slice a4 r5.length b4) (Value.slice a5 r6.length b5) 0 h)
           simp only [Nat.zero_add] at HFB HFO
           clear p0 p1 p2 p3 p4 p5 pf
           generalize (((((w3.setCell { block := w.heap.size, off := 0 } (Value.int IntKind.i64 5)).setCell { block := w.heap.size, off := 1 } (Value.bool false)).setCell { block := w.heap.size, off := 2 } (Value.int IntKind.i64 0)).setCell { block := w.heap.size, off := 3 } (Value.string ⟨#[]⟩)).setCell { block := w.heap.size, off := 4 } (Value.slice a4 r5.length b4)).setCell { block := w.heap.size, off := 5 } (Value.slice a5 r6.length b5) = WF at *
           obtain ⟨q0, q1, q2, q3, q4, q5⟩ := qAq HF.out
           obtain ⟨a8, b8, e8, F4⟩ := qA4 (qBk D4.out (fun k hk => HFO.out k (by have := qA1 D4.out k hk; omega))) (R4.out.imp_ (fun p c h => k25.K_below HFB.out h)) rfl
           obtain ⟨a9, b9, e9, F5⟩ := qA4 (qBk D5.out (fun k hk => HFO.out k (by have := qA1 D5.out k hk; omega))) (R5.out.imp_ (fun p c h => Kd.string.K_below HFB.out h)) rfl
           injection e8 with e8a _ _
           injection e9 with e9a _ _
           subst e8a e9a
           refine bodyPost_ret (v := .agg #[(Value.int IntKind.i64 5), (Value.bool false), (Value.int IntKind.i64 0), (Value.string ⟨#[]⟩), (Value.slice a4 r5.length b4), (Value.slice a5 r6.length b5)]) (by simp [results, Tryd.results31, go_sem, q0, q1, q2, q3, q4, q5]) rfl ⟨_, _, _, _, rfl, hcap4, F4, hcap5, F5, HFB.out⟩)
end Go.Proofs.YtbnoihpooeombaaDoor.X

namespace Go.Proofs.YtbnoihpooeombaaDoor.X
open Go.RowKit Go.Proofs.YtbnoihpooeombaaDoorW.PrintWords Go.Proofs.YtbnoihpooeombaaDoorW.PrintLast Go.Proofs.YtbnoihpooeombaaDoorW.PrintMore Go.Proofs.YtbnoihpooeombaaDoor.P
set_option linter.unusedVariables false
set_option linter.unusedSimpArgs false
set_option maxHeartbeats 4000000 in
set_option maxRecDepth 100000 in
theorem qC5 (K : Nat) (A0 : Option Addr) (c0 : Nat) (l0 : List ByteArray) (A1 : Option Addr) (c1 : Nat) (l1 : List S25) (g1 g2 : Bool) (q : S25) (w : World) (hT : Aside0 (Tabs w))
    (hr0 : Kd.C Kd.string w A0 l0.length l0) (hc0 : l0.length ≤ c0) (hr1 : Kd.C k25 w A1 l1.length l1) (hc1 : l1.length ≤ c1)
    (hA : hogsheadlaw15_awake.f K = some true) (hG1 : hogsheadlaw0_GreatTexts.f K l0 12 100 = some g1) (hG2 : hogsheadlaw15_great.f K l1 = some g2)
    (hO : g1 = false → g2 = false → hogsheadref15_May.f K 5 false 0 ByteArray.empty (ofP l0 l1 [] []).2 (ofP l0 l1 [] []).1 = some (mayV 16 ⟨5, false, 0, ByteArray.empty, (ofP l0 l1 [] []).2, (ofP l0 l1 [] []).1⟩ 0).2 ∧ l0.length ≤ 100000 ∧ value_Of.f K l0 l1 = some (q.f0, q.f1, q.f2, q.f3, q.f4, q.f5) ∧ ofR (ofP l0 l1 [] []).1 (ofP l0 l1 [] []).2 = (q.f0, q.f1, q.f2, q.f3, q.f4, q.f5) ∧
      hogsheadlaw0_SameValue.f K q.f0 q.f1 q.f2 q.f3 q.f4 q.f5 q.f0 q.f1 q.f2 q.f3 q.f4 q.f5 100 = some true) :
    Calls Tryd.prog 4 #[.slice A0 l0.length c0, .slice A1 l1.length c1] w fun e w' => e = .returned (.bool true) ∧ Below w.heap.size w w' := by
  have X0 := Aside0.mk hr0
  have X1 := Aside0.mk hr1
  have HA := Aside0.mk hA
  have HG1 := Aside0.mk hG1
  have HG2 := Aside0.mk hG2
  have HO := Aside0.mk hO
  clear hr0 hr1 hA hG1 hG2 hO
  go_enter Tryd.func4, Tryd.ntmps4
  go_wp2_with fail
  refine (hogsheadlaw0_GreatTexts.calls K A0 c0 l0 12 100 g1 w X0.out hc0 HG1.out).mono ?_
  rintro e w2 ⟨rfl, hd⟩
  have HB2 := Aside0.mk hd.below
  clear hd HG1
  cases g1 with
  | true =>
    go_wp2_with (go_at_call 15; refine (hogsheadlaw15_awake.calls K true _ ⟨Tabs.below hT.out HB2.out⟩ HA.out).mono ?_; rintro e w7 ⟨rfl, hb7⟩; have HB7 := Aside0.mk (qAj HB2.out hb7); clear hb7)
    go_ret
    exact ⟨rfl, HB7.out⟩
  | false =>
    go_wp2_with fail
    refine (hogsheadlaw15_great.calls K A1 c1 l1 g2 w2 (Kd.C_below X1.out HB2.out) hc1 HG2.out).mono ?_
    rintro e w3 ⟨rfl, hb3⟩
    have HB3 := Aside0.mk (qAj HB2.out hb3)
    clear hb3 HG2 HB2
    cases g2 with
    | true =>
      go_wp2_with (go_at_call 15; refine (hogsheadlaw15_awake.calls K true _ ⟨Tabs.below hT.out HB3.out⟩ HA.out).mono ?_; rintro e w7 ⟨rfl, hb7⟩; have HB7 := Aside0.mk (qAj HB3.out hb7); clear hb7)
      go_ret
      exact ⟨rfl, HB7.out⟩
    | false =>
      obtain ⟨hm, hn, h1, h2, h3⟩ := HO.out (by trivial) (by trivial)
      have D1 := Aside0.mk h1
      have D2 := Aside0.mk h2
      have D3 := Aside0.mk h3
      have DM := Aside0.mk hm
      clear hm h1 h2 h3 HO
      go_wp2_with fail
      refine (value_Of.calls K A0 c0 l0 A1 c1 l1 q.f0 q.f1 q.f2 q.f3 q.f4 q.f5 w3 (Kd.C_below X0.out HB3.out) hc0 (Kd.C_below X1.out HB3.out) hc1 D1.out).mono ?_
      rintro e w4 ⟨u4, u5, rfl, hu4, hu5, hb4⟩
      obtain ⟨B4, d4, rfl, e4, g4⟩ := Kd.R_reads hu4
      obtain ⟨B5, d5, rfl, e5, g5⟩ := Kd.R_reads hu5
      have HB4 := Aside0.mk (qAj HB3.out hb4)
      have G4 := Aside0.mk g4
      have G5 := Aside0.mk g5
      clear hu4 hu5 hb4 g4 g5 HB3 D1
      go_wp2_with fail
      refine (qEw A0 c0 l0 A1 c1 l1 q.f0 q.f1 q.f2 q.f3 q.f4 q.f5 w4 (Kd.C_below X0.out HB4.out) hc0 (Kd.C_below X1.out HB4.out) hc1 hn K DM.out D2.out).mono ?_
      rintro e w5 ⟨E4, m4, E5, m5, rfl, l4, j4, l5, j5, hb5⟩
      have HB5 := Aside0.mk (qAj HB4.out hb5)
      have P4 := Aside0.mk (Kd.C_below G4.out hb5)
      have P5 := Aside0.mk (Kd.C_below G5.out hb5)
      have J4 := Aside0.mk j4
      have J5 := Aside0.mk j5
      clear hb5 G4 G5 HB4 D2 j4 j5
      go_wp2_with fail
      refine (hogsheadlaw0_SameValue.calls K q.f0 q.f1 q.f2 q.f3 B4 d4 q.f4 B5 d5 q.f5 q.f0 q.f1 q.f2 q.f3 E4 m4 q.f4 E5 m5 q.f5 100 true w5 P4.out e4 P5.out e5 J4.out l4 J5.out l5 D3.out).mono ?_
      rintro e w6 ⟨rfl, hb6⟩
      have HB6 := Aside0.mk (qAj HB5.out hb6)
      clear hb6 HB5 P4 P5 J4 J5 D3
      go_wp2_with (go_at_call 15; refine (hogsheadlaw15_awake.calls K true _ ⟨Tabs.below hT.out HB6.out⟩ HA.out).mono ?_; rintro e w7 ⟨rfl, hb7⟩; have HB7 := Aside0.mk (qAj HB6.out hb7); clear hb7)
      go_ret
      exact ⟨rfl, HB7.out⟩
theorem qHu (ks : List ByteArray) (vs : List S25) (hk : ks.length ≤ 12) (hs : ∀ s ∈ ks, s.size ≤ 100) (hn : vs.length ≤ 12) (hv : ∀ v ∈ vs, Small 60 v) : T 61 4000 (objKV (ofP ks vs [] [])) := by
  obtain ⟨h1, h2, h3⟩ := qC3 (fun s => s.size ≤ 100) (fun v => Small 60 v) ks vs [] [] hs hv (fun k h => by cases h) (fun v h => by cases h)
  obtain ⟨g1, g2, g3⟩ := qD3 ks vs [] [] rfl rfl
  rw [List.length_nil] at h3
  refine ⟨⟨show (⟨#[]⟩ : ByteArray).size ≤ 100 by decide, show (ofP ks vs [] []).1.length ≤ 100 by omega, h1, fun y hy => (h2 y hy).1⟩, ?_⟩
  show 1 + ((ofP ks vs [] []).2.map (nodesV 60)).sum ≤ 4000
  have := sum_le'' (nodesV 60) 60 (ofP ks vs [] []).2 (fun x hx => (h2 x hx).2)
  have : (ofP ks vs [] []).2.length * 60 ≤ 12 * 60 := Nat.mul_le_mul_right _ (by omega)
  omega
theorem qD0 (A0 : Option Addr) (c0 : Nat) (l0 : List ByteArray) (A1 : Option Addr) (c1 : Nat) (l1 : List S25) (w : World) (hT : Aside0 (Tabs w))
    (hr0 : Kd.C Kd.string w A0 l0.length l0) (hc0 : l0.length ≤ c0) (hr1 : Kd.C k25 w A1 l1.length l1) (hc1 : l1.length ≤ c1) :
    Calls Tryd.prog 4 #[.slice A0 l0.length c0, .slice A1 l1.length c1] w fun e w' => e = .returned (.bool true) ∧ Below w.heap.size w w' := by
  obtain ⟨K1, hA⟩ := qDx
  obtain ⟨g2, ⟨K2, hG2⟩, hS⟩ := qF4 l1
  obtain ⟨K3, hG1⟩ := qCu l0 12 100 (by omega)
  by_cases hb : ((l0.length : Int) > 12 ∨ ∃ s ∈ l0, (s.size : Int) > 100) ∨ g2 = true
  · refine qC5 (K1 + K2 + K3) A0 c0 l0 A1 c1 l1 _ g2 nilV w hT hr0 hc0 hr1 hc1 (hA _ (by omega)) (hG1 _ (by omega)) (hG2 _ (by omega)) (fun h1 h2 => ?_)
    rcases hb with hb | hb
    · rw [decide_eq_false_iff_not] at h1
      exact (h1 hb).elim
    · rw [hb] at h2
      cases h2
  · have h1 : ¬ ((l0.length : Int) > 12 ∨ ∃ s ∈ l0, (s.size : Int) > 100) := fun h => hb (.inl h)
    have hg : g2 = false := by cases g2 with | false => rfl | true => exact (hb (.inr rfl)).elim
    subst hg
    have hk : l0.length ≤ 12 := by omega
    have hs : ∀ s ∈ l0, s.size ≤ 100 := fun s hm => by
      rcases Nat.lt_or_ge 100 s.size with h | h
      · exact (h1 (.inr ⟨s, hm, by omega⟩)).elim
      · exact h
    obtain ⟨hn, hv⟩ := hS rfl
    have hTo := qHu l0 l1 hk hs hn hv
    obtain ⟨K4, hO⟩ := of_val l0 l1 (by omega)
    obtain ⟨q, hq, hTq⟩ : ∃ q : S25, ofR (ofP l0 l1 [] []).1 (ofP l0 l1 [] []).2 = (q.f0, q.f1, q.f2, q.f3, q.f4, q.f5) ∧ T 61 100000 q := by
      unfold ofR
      split
      · exact ⟨objKV (ofP l0 l1 [] []), rfl, hTo.1, by have := hTo.2; omega⟩
      · refine ⟨nilV, rfl, ⟨show (⟨#[]⟩ : ByteArray).size ≤ 100 by decide, Nat.zero_le _, fun s h => (by cases h), fun y h => (by cases h)⟩, ?_⟩
        show 1 + (([] : List S25).map (nodesV 60)).sum ≤ 100000
        simp
    obtain ⟨K6, hRM⟩ := qGm 61 _ hTo
    obtain ⟨K5, hSV⟩ := qDq 61 (by omega) q hTq
    refine qC5 (K1 + K2 + K3 + K4 + K5 + K6) A0 c0 l0 A1 c1 l1 _ false q w hT hr0 hc0 hr1 hc1 (hA _ (by omega)) (hG1 _ (by omega)) (hG2 _ (by omega)) (fun _ _ => ⟨by rw [show (mayV 16 ⟨5, false, 0, ByteArray.empty, (ofP l0 l1 [] []).2, (ofP l0 l1 [] []).1⟩ 0).2 = goodV 16 (objKV (ofP l0 l1 [] [])) from qB9 61 _ hTo]; exact hRM _ (by omega), by omega, ?_, hq, hSV _ (by omega)⟩)
    have := hO (K1 + K2 + K3 + K4 + K5 + K6) (by omega)
    simp only at this
    rw [this, hq]
end Go.Proofs.YtbnoihpooeombaaDoor.X
