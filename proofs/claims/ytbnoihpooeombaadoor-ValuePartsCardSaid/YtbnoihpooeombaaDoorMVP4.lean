/- Part 4 of what is behind the row RowValueParts: XVI, XVJ, XVF, Pf15, XVW, Pf6, Pf32, Pf7, XVB, Pf29, XVPB. -/
import Derived.Test.YtbnoihpooeombaaDoorMVP3
import Derived.Lib.AppendZerosOnto
import Derived.Lib.Overlaps
import Derived.Laws.Externs
import Derived.Laws.CopyOwn
import Derived.Shelf.RegionOpenPlain
import Derived.Deep.AppendSrc
import Derived.Lib.SliceRun
import Derived.Outline
import Derived.WalkLawsBesides
import Derived.WalkSpells
import Derived.LoopTactic
import Derived.Lib.Hide
import Derived.Lib.IndexMore
import Derived.Lib.Bytealg
import Derived.Laws.BitsAllLaws
import Derived.Lib.Repeat
import Derived.WalkKit
import Derived.Test.YtbnoihpooeombaaDoorProg
import Derived.Lib.ItoaNum
import Derived.Lib.ItoaMem
import Derived.Below
import Derived.Deep.Draws
import Derived.Deep.AppendLies
import Derived.Maps.AppendAt
import Derived.OwnWalk
import Derived.Laws.BytesArg
import Derived.Laws.MakeOwn
import Derived.Laws.OwnMore
import Derived.Deep.OwnRows
import Derived.Tactics
import Derived.Lib.ConvBytes
import Derived.Laws.Slices
import Derived.KernelRfl
import Derived.RowKit3
import Derived.Deep.LoopGhost
import Derived.Deep.QuietTactic
import Derived.BigQuiet
import Derived.WideLaws
import Derived.Deep.DeepCutAuto
import Derived.Deep.CutBlock
import Derived.Deep.RegionHeld3
import Derived.Laws.Rows
import Derived.Lib.AppendStr
import Derived.ArgAppend
import Derived.Laws.IdiomCopy
import Derived.RowKit
import Derived.OrdersHeld
import Derived.Laws.BitsLemmas
import Derived.Laws.Cover1
import Derived.Laws.StructEq
import Derived.Laws.Bits64b
import Derived.Laws.NewBlocks
import Derived.Lib.AppendIntMem
import Derived.Shelf.Strings.Builder1
import Derived.Shelf.Strings.Builder2
import Derived.Shelf.Strings.OnBuilder
import Derived.Shelf.Strings.BuilderF
import Derived.Shelf.Strings.BuilderK
import Derived.Shelf.Strconv.Itoa0
import Derived.Shelf.Strconv.Itoa1
import Derived.Shelf.LaysM
import Derived.Shelf.Strconv.Itoa2
import Derived.Shelf.Strconv.Itoa3
import Derived.Shelf.Strings.Prefix
import Derived.Shelf.Bits.Mul64
import Derived.Shelf.Strings.Repeat
import Derived.Deep.DeepMust
import Derived.Lib.ItoaLen
namespace Go.Proofs.YtbnoihpooeombaaDoor.X
open Go.RowKit Go.Proofs.YtbnoihpooeombaaDoorW.PrintWords Go.Proofs.YtbnoihpooeombaaDoorW.PrintLast Go.Proofs.YtbnoihpooeombaaDoorW.PrintMore Go.Proofs.YtbnoihpooeombaaDoor.P
set_option linter.unusedVariables false
set_option linter.unusedSimpArgs false
theorem qA5 {P : Program} (w : World) (dT sT ty elem : TypeId) (g o dLen dCap : Nat) (a : Addr) (sLen sCap : Nat) (cur : Array Value) (t : TypeId) (cs : List Value) (sz n : Nat)
    (hu : P.underlying dT = some (.slice elem)) (hs : (P.info? elem).map (·.size) = some sz) (hg : w.heap[g]? = some (.cells cur t (0, 0))) (hn : n = Nat.min sLen dLen) (hcl : cs.length = n * sz)
    (hsrc : ∀ j v, cs[j]? = some v → w.cell? (a.add j) = some v) (hfit : o + cs.length ≤ cur.size) (h1 : ∀ v ∈ cs, v.oneCell' = true) :
    (Builtin.copy_ #[dT, sT] ty #[.slice (some ⟨g, o, none⟩) dLen dCap, .slice (some a) sLen sCap]).run P w = .ok (goInt n) (w.setRow g (cur.toList.take o ++ cs ++ cur.toList.drop (o + cs.length)).toArray) := by
  have hl := run_firstCells_some (P := P) w sz n a sLen sCap cs hcl hsrc
  have hst := run_storeCells_at P g o t cs 0 cur w hg (by simpa using hfit) h1
  cases hq : P.info? elem with
  | none => simp [hq] at hs
  | some i =>
    have hi : i.size = sz := by simpa [hq] using hs
    simp [Builtin.copy_, run_underlying hu, Builtin.lenOf, sizeOf, typeInfo, hq, hi, ← hn, hl, hst]
theorem qBf (w : World) (g : Nat) (cs : Array Value) : w.grownBy (w.setRow g cs) (some g) :=
  ⟨rfl, rfl, rfl, by simp [World.setRow], fun k _ hk => setRow_other _ _ _ _ (fun e => hk (by rw [e]))⟩
theorem qBj {w : World} {g t : Nat} {cur : Array Value} {xs : List Value} {m : Nat} (hg : w.heap[g]? = some (.cells cur t (0, 0))) (hx : cur.toList.take m = xs) (j : Nat) (u : Value) (hj : xs[j]? = some u) : w.cell? ⟨g, j, none⟩ = some u := by
  rw [qAc hg j]
  subst hx
  rw [List.getElem?_take] at hj
  split at hj
  · simpa using hj
  · cases hj
theorem qDk {α : Type} (cur xs ys : List α) (a s m p q : Nat) (hp : p = a + s) (hq : q = a) (hx : cur.take (a + m) = xs) (hxl : xs.length = a + m) (hys : ys.length = s) (hfit : a + s + m ≤ cur.length) (t : Nat) (ht : t = a + s + m) :
    (((cur.take p ++ xs.drop a ++ cur.drop (p + (xs.drop a).length)).take q ++ ys ++ (cur.take p ++ xs.drop a ++ cur.drop (p + (xs.drop a).length)).drop (q + ys.length))).take t = xs.take a ++ (ys ++ xs.drop a) := by
  subst hp hq ht
  have e1 : (cur.take (q + s)).length = q + s := by rw [List.length_take]; omega
  have e2 : (cur.take (q + s) ++ xs.drop q ++ cur.drop (q + s + (xs.drop q).length)).take q = xs.take q := by
    rw [List.append_assoc, List.take_append_of_le_length (by omega), List.take_take, ← hx, List.take_take]
    congr 1
    omega
  have e3 : (cur.take (q + s) ++ xs.drop q ++ cur.drop (q + s + (xs.drop q).length)).drop (q + ys.length) = xs.drop q ++ cur.drop (q + s + (xs.drop q).length) := by
    rw [hys, List.append_assoc, List.drop_append, e1, Nat.sub_self, List.drop_zero, List.drop_eq_nil_of_le (by omega), List.nil_append]
  rw [e2, e3]
  have e4 : (xs.take q ++ (ys ++ xs.drop q)).length = q + s + m := by
    simp only [List.length_append, List.length_take, List.length_drop]; omega
  have e5 : xs.take q ++ ys ++ (xs.drop q ++ cur.drop (q + s + (xs.drop q).length)) = (xs.take q ++ (ys ++ xs.drop q)) ++ cur.drop (q + s + (xs.drop q).length) := by simp only [List.append_assoc]
  rw [e5, List.take_append_of_le_length (by omega), List.take_of_length_le (by omega)]
theorem qA9 {w w1 : World} (h : Below w.heap.size w w1) (r : Option Nat) : w.grownBy w1 r := ⟨h.os, h.tape, h.output, h.size, fun k hk _ => h.block k hk⟩
set_option maxHeartbeats 3200000 in
set_option maxRecDepth 100000 in
theorem qFb (v : Value) (n base vb tv : Nat) (xs ys : List Value) (w : World) (ho : w.ownsRow base 9 1 v n xs) (hv : w.heap[vb]? = some (.cells ys.toArray tv (0, 0))) (hys : ys.length = 1) (hbase : base ≤ w.heap.size) (hbig : (n + 1) * 16 ≤ 140737488355328) (h1y : ∀ u ∈ ys, u.oneCell' = true) :
    Calls Tryd.prog 56 #[v, .int .i64 n, .slice (some ⟨vb, 0, none⟩) 1 1] w fun e w' => ∃ v', e = .returned v' ∧ w'.ownsRow base 9 1 v' (n + 1) (xs ++ ys) ∧ w.grownBy w' v.ownBlock := by
  obtain ⟨i0, hi0, hz0, hzs, hzb⟩ := info_parts (show (Tryd.prog.info? 9).map (fun i => (i.zero, i.size, i.bytes)) = some (some (.string ⟨#[]⟩), 1, 16) by kernel_rfl)
  obtain ⟨hl, hcase⟩ := ho
  have hcy : ∀ j u, ys[j]? = some u → w.cell? ((⟨vb, 0, none⟩ : Addr).add j) = some u := fun j u hj => by
    rw [qBd, qAc hv j]; simpa using hj
  rcases hcase with ⟨rfl, rfl⟩ | ⟨g, cap, cur, rfl, hgb, hg, hnc, hcm, hcs, htk⟩
  · obtain rfl : xs = [] := List.length_eq_zero_iff.1 (by omega)
    have hap := fun ty => run_append_grow_src (P := Tryd.prog) (w := w) 23 23 ty 9 i0 _ Tryd.underlying23 hi0 hz0 none 0 0 []
      (run_firstCells_none _ _ _ _ _) (.slice (some ⟨vb, 0, none⟩) 1 1) 1 ys
      (by rw [hzs]; exact Src.ofSlice _ Tryd.underlying23 ⟨vb, 0, none⟩ 1 1 ys (by omega) hcy h1y) (by omega) (by omega) (by rw [hzb]; exact growslice_fits (by omega) (by omega))
    have hge := grownCap_ge w (0 + 1) 0 9
    have hle := grownCap_le_maxLen w (0 + 1) 0 9 (by unfold maxLen; omega)
    generalize grownCap w (0 + 1) 0 9 = G at *
    simp only [Nat.zero_add, List.nil_append] at hap hge
    have HAP := Aside0.mk hap
    have HGE := Aside0.mk hge
    have HLE := Aside0.mk hle
    clear hap hge hle hcy hl hv
    go_enter Tryd.func56, Tryd.ntmps56
    go_wp2_with (at_builtin; refine qAu rfl _ _ 23 23 rfl _ _ _ _ rfl rfl (HAP.out _) ?_)
    go_ret
    exact ⟨_, rfl, qBz (size := 1) (z := (.string ⟨#[]⟩ : Value).cells) (by omega) rfl HGE.out HLE.out _ rfl hbase, qA9 (qAe (qAd (Below.refl _ _) _)) _⟩
  · have hcx : ∀ j u, xs[j]? = some u → w.cell? ((⟨g, 0, none⟩ : Addr).add j) = some u := fun j u hj => by
      rw [qBd]; exact qBj hg htk j u hj
    unfold maxLen at hcm
    by_cases hroom : n + 1 ≤ cap
    · have hap := fun ty => run_append_room (P := Tryd.prog) w 23 ty 9 i0 Tryd.underlying23 hi0 g n cap cur hg ⟨vb, 0, none⟩ 1 1 ys (by rw [hzs]; omega) hcy h1y hroom (by rw [hzs, hcs, hys]; have := Nat.mul_le_mul_right 1 hroom; omega)
      have HAP := Aside0.mk hap
      have HG := Aside0.mk hg
      have HT := Aside0.mk htk
      clear hap hcy hcx hv htk hg
      go_enter Tryd.func56, Tryd.ntmps56
      go_wp2_with (at_builtin; refine qAu rfl _ _ 23 23 rfl _ _ _ _ rfl rfl (HAP.out _) ?_)
      go_ret
      refine ⟨_, rfl, ⟨by rw [List.length_append, hl, hys]; omega, .inr ⟨g, cap, _, rfl, hgb, setRow_heap _ _ _ _ _ _ HG.out, hroom, by unfold maxLen; omega, ?_, ?_⟩⟩, qBf _ _ _⟩
      · have h2 := Nat.mul_le_mul_right 1 hroom
        simp only [hzs, List.size_toArray, List.length_append, List.length_take, List.length_drop, Array.length_toList, hcs, hys]
        omega
      · have HT' : cur.toList.take (n * 1) = xs := HT.out
        simp only [hzs, Nat.mul_one] at HT' ⊢
        rw [HT', ← List.append_assoc, List.take_append_of_le_length (by rw [List.length_append, hl, hys]; omega), List.take_of_length_le (by rw [List.length_append, hl, hys]; omega)]
    · have hap := fun ty => run_append_grow_src (P := Tryd.prog) (w := w) 23 23 ty 9 i0 _ Tryd.underlying23 hi0 hz0 (some ⟨g, 0, none⟩) n cap xs
        (by rw [hzs]; exact run_firstCells_some _ 1 n ⟨g, 0, none⟩ n cap xs hl hcx) (.slice (some ⟨vb, 0, none⟩) 1 1) 1 ys
        (by rw [hzs]; exact Src.ofSlice _ Tryd.underlying23 ⟨vb, 0, none⟩ 1 1 ys (by omega) hcy h1y) (by omega) (by omega) (by rw [hzb]; exact growslice_fits (by omega) (by omega))
      have hge := grownCap_ge w (n + 1) cap 9
      have hle := grownCap_le_maxLen w (n + 1) cap 9 (by unfold maxLen; omega)
      generalize grownCap w (n + 1) cap 9 = G at *
      have HAP := Aside0.mk hap
      have HGE := Aside0.mk hge
      have HLE := Aside0.mk hle
      clear hap hge hle hcy hcx hv
      go_enter Tryd.func56, Tryd.ntmps56
      go_wp2_with (at_builtin; refine qAu rfl _ _ 23 23 rfl _ _ _ _ rfl rfl (HAP.out _) ?_)
      go_ret
      exact ⟨_, rfl, qBz (size := 1) (z := (.string ⟨#[]⟩ : Value).cells) (by rw [List.length_append, hl, hys]; omega) rfl HGE.out HLE.out _ rfl hbase, qA9 (qAe (qAd (Below.refl _ _) _)) _⟩
set_option maxHeartbeats 6400000 in
set_option maxRecDepth 100000 in
theorem qFa (v : Value) (n i base vb tv : Nat) (xs ys : List Value) (w : World) (ho : w.ownsRow base 9 1 v n xs) (hi : i < n) (hv : w.heap[vb]? = some (.cells ys.toArray tv (0, 0))) (hys : ys.length = 1) (hne : some vb ≠ v.ownBlock) (hbase : base ≤ w.heap.size) (hbig : (n + 1) * 16 ≤ 140737488355328) (h1x : ∀ u ∈ xs, u.oneCell' = true) (h1y : ∀ u ∈ ys, u.oneCell' = true) :
    Calls Tryd.prog 56 #[v, .int .i64 i, .slice (some ⟨vb, 0, none⟩) 1 1] w fun e w' => ∃ v', e = .returned v' ∧ w'.ownsRow base 9 1 v' (n + 1) (xs.take (i * 1) ++ (ys ++ xs.drop (i * 1))) ∧ w.grownBy w' v.ownBlock := by
  obtain ⟨i0, hi0, hz0, hzs, hzb⟩ := info_parts (show (Tryd.prog.info? 9).map (fun i => (i.zero, i.size, i.bytes)) = some (some (.string ⟨#[]⟩), 1, 16) by kernel_rfl)
  have hsi : (Tryd.prog.info? 9).map (·.size) = some 1 := by rw [hi0]; simp [hzs]
  obtain ⟨hl, hcase⟩ := ho
  rcases hcase with ⟨_, h0⟩ | ⟨g, cap, cur, rfl, hgb, hg, hnc, hcm, hcs, htk⟩
  · omega
  have hng : vb ≠ g := fun e => hne (by rw [e]; rfl)
  unfold maxLen at hcm
  have hnc1 : ¬ (cap = i) := by omega
  have hin : ¬ ((i : Int) = (n : Int)) := by omega
  have mixed : Tryd.prog.follows .mixedOrders = true := by kernel_rfl
  have hb1 : (0 : Int) ≤ (i : Int) + 1 := by omega
  have hin' : i ≤ n := by omega
  have htn : ((i : Int) + 1).toNat = i + 1 := by omega
  have hb3 : (i : Int) ≤ (n : Int) + 1 := by omega
  have hdl : (xs.drop (i * 1)).length = (n - i) * 1 := by rw [List.length_drop, hl]; omega
  by_cases hroom : n + 1 ≤ cap
  · have hw1 : IntKind.i64.wrap ((i : Int) + 1) = ((i + 1 : Nat) : Int) := by rw [IntKind.wrap_i64]; omega
    have hnc2 : ¬ (cap = i + 1) := by omega
    have hov : ∀ lb cb W, W.heap[vb]? = some (.cells ys.toArray tv (0, 0)) → W.heap[g]? = some (.cells cur 9 (0, 0)) → (callFunc 78 #[.slice (some ⟨vb, 0, none⟩) 1 1, .slice (some ⟨g, i + 1, none⟩) lb cb]).run Tryd.prog W = .ok (.value (.bool false)) W := fun lb cb W hv hg => by
      rw [run_callFunc_extern Tryd.func78 (by kernel_rfl) (by kernel_rfl) (by kernel_rfl) (e := Extern.SlicesOverlaps.overlaps #[23, 23] #[4]) (by kernel_rfl),
        Lib.run_overlaps_apart W 23 4 9 Tryd.underlying23 1 Tryd.sizeOf9 ⟨vb, 0, none⟩ ⟨g, i + 1, none⟩ 1 1 lb cb hng tv 9 ys.length (cap * 1) (by simp [World.shape?, hv]) (by simp [World.shape?, hg, hcs]) (by omega) (qAa hv 0) (qAa hv _)]
      rfl
    have h6 : (n - i) * 1 + i * 1 = n * 1 := by rw [← Nat.add_mul]; congr 1; omega
    have h7 : (i + 1) * 1 + (n - i) * 1 ≤ cap * 1 := by rw [← Nat.add_mul]; exact Nat.mul_le_mul_right _ (by omega)
    have h8 : i * 1 + 1 ≤ cap * 1 := by
      have := Nat.mul_le_mul_right 1 (show i + 1 ≤ cap by omega)
      rw [Nat.add_mul] at this; omega
    obtain ⟨cur1, hcur1⟩ : ∃ c : Array Value, c = (cur.toList.take (i + 1) ++ xs.drop (i * 1) ++ cur.toList.drop (i + 1 + (xs.drop (i * 1)).length)).toArray := ⟨_, rfl⟩
    obtain ⟨cur2, hcur2⟩ : ∃ c : Array Value, c = (cur1.toList.take (i) ++ ys ++ cur1.toList.drop (i + ys.length)).toArray := ⟨_, rfl⟩
    have hc1s : cur1.size = cap * 1 := by
      rw [hcur1]; simp only [List.size_toArray, List.length_append, List.length_take, List.length_drop, Array.length_toList, hcs, hl]; omega
    have hc2s : cur2.size = cap * 1 := by
      rw [hcur2]; simp only [List.size_toArray, List.length_append, List.length_take, List.length_drop, Array.length_toList, hc1s, hys]; omega
    have hcp1 : ∀ W : World, W.heap[g]? = some (.cells cur 9 (0, 0)) → ∀ ty dc sc, (Builtin.copy_ #[23, 23] ty #[.slice (some ⟨g, i + 1, none⟩) (n - i) dc, .slice (some ⟨g, i, none⟩) (n + 1 - i) sc]).run Tryd.prog W = .ok (goInt (n - i : Nat)) (W.setRow g cur1) := fun W hW ty dc sc => by
      rw [hcur1]
      exact qA5 W _ _ ty _ g (i + 1) (n - i) dc ⟨g, i, none⟩ (n + 1 - i) sc cur _ (xs.drop (i * 1)) 1 (n - i) Tryd.underlying23 hsi hW (by simp only [Nat.min_def]; split <;> omega) hdl
        (fun j u hj => by
          rw [Addr.add_lit]
          exact qBj hW htk _ u (by rw [List.getElem?_drop] at hj; exact (congrArg (fun k => xs[k]?) (by omega)).trans hj)) (by rw [hdl, hcs]; omega) (fun u hu => h1x u (List.mem_of_mem_drop hu))
    have hcp2 : ∀ W : World, W.heap[g]? = some (.cells cur1 9 (0, 0)) → W.heap[vb]? = some (.cells ys.toArray tv (0, 0)) → ∀ ty dc, (Builtin.copy_ #[23, 23] ty #[.slice (some ⟨g, i, none⟩) (n + 1 - i) dc, .slice (some ⟨vb, 0, none⟩) 1 1]).run Tryd.prog W = .ok (goInt (1 : Nat)) (W.setRow g cur2) := fun W hW hV ty dc => by
      rw [hcur2]
      exact qA5 W _ _ ty _ g (i) (n + 1 - i) dc ⟨vb, 0, none⟩ 1 1 cur1 _ ys 1 1 Tryd.underlying23 hsi hW (by simp only [Nat.min_def]; split <;> omega) (by omega)
        (fun j u hj => by rw [qBd, qAc hV j]; simpa using hj) (by rw [hys, hc1s]; omega) h1y
    have h9 : i * 1 + (n - i) * 1 = n * 1 := by omega
    have htk2 : cur2.toList.take ((n + 1) * 1) = xs.take (i * 1) ++ (ys ++ xs.drop (i * 1)) := by
      rw [hcur2, hcur1]
      exact qDk cur.toList xs ys (i * 1) 1 ((n - i) * 1) _ _ (by omega) (by omega) (by rw [h9]; exact htk) (by rw [h9]; exact hl) hys (by rw [Array.length_toList, hcs]; omega) _ (by omega)
    have HG := Aside0.mk hg
    have HV := Aside0.mk hv
    have HOV := Aside0.mk hov
    have HT := Aside0.mk htk
    have hov1 := fun lb cb => HOV.out lb cb w hv hg
    clear hg hv htk hov hdl
    go_enter Tryd.func56, Tryd.ntmps56
    have HC1 := Aside0.mk hcp1
    have HC2 := Aside0.mk hcp2
    have HT2 := Aside0.mk htk2
    clear hcp1 hcp2 htk2 hcur1 hcur2
    go_wp2_with (simp only [hov1])
    have hcd := HC1.out w.drew HG.out
    have HW1 := Aside0.mk (setRow_heap w.drew g cur cur1 _ _ HG.out)
    have HV1 := Aside0.mk ((setRow_other w.drew g vb cur1 hng).trans HV.out)
    have hce := HC2.out (w.drew.setRow g cur1) HW1.out HV1.out
    go_region_law_o (fail)
    go_wp2
    go_ret
    exact ⟨_, rfl, ⟨by simp only [List.length_append, List.length_take, List.length_drop, hl, hys]; omega, .inr ⟨g, cap, cur2, rfl, hgb, setRow_heap _ _ _ _ _ _ HW1.out, hroom, by unfold maxLen; omega, hc2s, HT2.out⟩⟩, qBp (qBp (qA9 (qAe (Below.refl _ _)) _) (qBf _ _ _)) (qBf _ _ _)⟩
  · have hw1 : IntKind.i64.wrap ((i : Int) + 1) = (i : Int) + 1 := by rw [IntKind.wrap_i64]; omega
    have hz3 : (cap : Int) < (n : Int) + 1 := by omega
    have hkk : (n : Int) + 1 - (i : Int) = ((n + 1 - i : Nat) : Int) := by omega
    have hik : i + (n + 1 - i) = n + 1 := by omega
    have h6 : (n - i) * 1 + i * 1 = n * 1 := by rw [← Nat.add_mul]; congr 1; omega
    have hxt : (xs.take (i * 1)).length = i * 1 := by rw [List.length_take, hl]; omega
    have hcx : ∀ j u, xs[j]? = some u → w.cell? ((⟨g, 0, none⟩ : Addr).add j) = some u := fun j u hj => by
      rw [qBd]; exact qBj hg htk j u hj
    have hap0 := fun ty => Lib.run_append_grow_zeros (P := Tryd.prog) w 23 3 ty 9 i0 _ .i64 .i64 Tryd.underlying23 Tryd.underlying3 hi0 hz0 (some ⟨g, 0, none⟩) i cap (xs.take (i * 1))
      (by rw [hzs]; exact run_firstCells_some _ 1 i ⟨g, 0, none⟩ i cap _ hxt (fun j u hj => by
        rw [List.getElem?_take] at hj
        split at hj
        · exact hcx j u hj
        · cases hj)) (n + 1 - i) (by omega) (by rw [hzs]; omega) (by omega) (by omega) (by rw [hzb]; omega) (by rw [hzb, hik]; exact growslice_fits (by omega) hbig)
    rw [hik] at hap0
    have hge := grownCap_ge w (n + 1) cap 9
    have hle := grownCap_le_maxLen w (n + 1) cap 9 (by unfold maxLen; omega)
    generalize grownCap w (n + 1) cap 9 = G at *
    unfold maxLen at hle
    obtain ⟨ROW, hROW⟩ : ∃ R : Array Value, R = (xs.take (i * 1)).toArray ++ Builtin.zeroCells (.string ⟨#[]⟩ : Value).cells (n + 1 - i) ++ Builtin.zeroCells (.string ⟨#[]⟩ : Value).cells (G - (n + 1)) := ⟨_, rfl⟩
    rw [← hROW] at hap0
    have hzc : (.string ⟨#[]⟩ : Value).cells.size = 1 := rfl
    have hRs : ROW.size = G * 1 := by
      rw [hROW]
      simp only [Array.size_append, qBv, hzc, List.size_toArray, hxt]
      rw [← Nat.add_mul, ← Nat.add_mul]
      congr 1
      omega
    have hRt : ROW.toList.take (i * 1) = xs.take (i * 1) := by
      rw [hROW, Array.toList_append, Array.toList_append, List.append_assoc, List.take_append_of_le_length (by simp only [hxt]; omega)]
      exact List.take_of_length_le (by simp only [hxt]; omega)
    have h7 : (i + 1) * 1 + (n - i) * 1 ≤ G * 1 := by rw [← Nat.add_mul]; exact Nat.mul_le_mul_right _ (by omega)
    have h8 : i * 1 + 1 = (i + 1) * 1 := by omega
    obtain ⟨cur1, hcur1⟩ : ∃ c : Array Value, c = (ROW.toList.take (i) ++ ys ++ ROW.toList.drop (i + ys.length)).toArray := ⟨_, rfl⟩
    obtain ⟨cur2, hcur2⟩ : ∃ c : Array Value, c = (cur1.toList.take (i + 1) ++ xs.drop (i * 1) ++ cur1.toList.drop (i + 1 + (xs.drop (i * 1)).length)).toArray := ⟨_, rfl⟩
    have hc1s : cur1.size = G * 1 := by
      rw [hcur1]; simp only [List.size_toArray, List.length_append, List.length_take, List.length_drop, Array.length_toList, hRs, hys]; omega
    have hc2s : cur2.size = G * 1 := by
      rw [hcur2]; simp only [List.size_toArray, List.length_append, List.length_take, List.length_drop, Array.length_toList, hc1s, hl]; omega
    have hcp1 : ∀ W : World, W.heap[w.heap.size]? = some (.cells ROW 9 (0, 0)) → W.heap[vb]? = some (.cells ys.toArray tv (0, 0)) → ∀ ty dc, (Builtin.copy_ #[23, 23] ty #[.slice (some ⟨w.heap.size, i, none⟩) (n + 1 - i) dc, .slice (some ⟨vb, 0, none⟩) 1 1]).run Tryd.prog W = .ok (goInt (1 : Nat)) (W.setRow w.heap.size cur1) := fun W hW hV ty dc => by
      rw [hcur1]
      exact qA5 W _ _ ty _ w.heap.size (i) (n + 1 - i) dc ⟨vb, 0, none⟩ 1 1 ROW _ ys 1 1 Tryd.underlying23 hsi hW (by simp only [Nat.min_def]; split <;> omega) (by omega)
        (fun j u hj => by rw [qBd, qAc hV j]; simpa using hj) (by rw [hys, hRs]; omega) h1y
    have hcp2 : ∀ W : World, W.heap[w.heap.size]? = some (.cells cur1 9 (0, 0)) → W.heap[g]? = some (.cells cur 9 (0, 0)) → ∀ ty dc sc, (Builtin.copy_ #[23, 23] ty #[.slice (some ⟨w.heap.size, i + 1, none⟩) (n - i) dc, .slice (some ⟨g, i, none⟩) (n - i) sc]).run Tryd.prog W = .ok (goInt (n - i : Nat)) (W.setRow w.heap.size cur2) := fun W hW hG ty dc sc => by
      rw [hcur2]
      exact qA5 W _ _ ty _ w.heap.size (i + 1) (n - i) dc ⟨g, i, none⟩ (n - i) sc cur1 _ (xs.drop (i * 1)) 1 (n - i) Tryd.underlying23 hsi hW (by simp only [Nat.min_def]; split <;> omega) hdl
        (fun j u hj => by
          rw [Addr.add_lit]
          exact qBj hG htk _ u (by rw [List.getElem?_drop] at hj; exact (congrArg (fun k => xs[k]?) (by omega)).trans hj)) (by rw [hdl, hc1s]; omega) (fun u hu => h1x u (List.mem_of_mem_drop hu))
    have htk2 : cur2.toList.take ((n + 1) * 1) = xs.take (i * 1) ++ (ys ++ xs.drop (i * 1)) := by
      have e1 : cur1.toList.take (i + 1) = xs.take (i * 1) ++ ys := by
        rw [hcur1]
        have : (ROW.toList.take (i) ++ ys).length = i + 1 := by
          rw [List.length_append, List.length_take, Array.length_toList, hRs, hys]; omega
        rw [List.take_append_of_le_length (by omega), List.take_of_length_le (by omega)]
        rw [show ROW.toList.take (i) = xs.take (i * 1) from (congrArg (fun k => ROW.toList.take k) (by omega)).trans hRt]
      rw [hcur2, e1]
      have e4 : (xs.take (i * 1) ++ ys ++ xs.drop (i * 1)).length = (n + 1) * 1 := by
        rw [List.length_append, List.length_append, hxt, hys, hdl]; omega
      rw [List.take_append_of_le_length (by omega), List.take_of_length_le (by omega), List.append_assoc]
    have hap1 : ∀ ty, (Builtin.append_ #[23, 3] ty #[.slice (some ⟨g, 0, none⟩) i cap, .int .i64 ((n : Int) + 1 - (i : Int))]).run Tryd.prog w = .ok (.slice (some ⟨w.heap.size, 0, none⟩) (n + 1) G) (w.drew.alloc (.cells ROW 9)) := fun ty => by
      rw [hkk]; exact hap0 ty
    have HAP := Aside0.mk hap1
    have HC1 := Aside0.mk hcp1
    have HC2 := Aside0.mk hcp2
    have HT2 := Aside0.mk htk2
    have HG := Aside0.mk hg
    have HV := Aside0.mk hv
    have hgl := blk_lt hg
    have hvl := blk_lt hv
    have HN0 := Aside0.mk (qBe w.drew (.cells ROW 9))
    have HG0 := Aside0.mk (blk_alloc' (w := w.drew) hg (.cells ROW 9))
    have HV0 := Aside0.mk (blk_alloc' (w := w.drew) hv (.cells ROW 9))
    have HB0 := Aside0.mk (qAd (qAe (Below.refl w.heap.size w)) (.cells ROW 9))
    have hGi : ¬ (G = i) := by omega
    have hGim : ¬ (G = i + 1) := by omega
    have hcdA := HC1.out ((w.alloc (.cells ROW 9)).drew) HN0.out HV0.out
    have HW1 := Aside0.mk (setRow_heap ((w.alloc (.cells ROW 9)).drew) w.heap.size ROW cur1 _ _ HN0.out)
    have HG1 := Aside0.mk ((setRow_other ((w.alloc (.cells ROW 9)).drew) w.heap.size g cur1 (by omega)).trans HG0.out)
    have hcdB := HC2.out ((((w.alloc (.cells ROW 9)).drew).setRow w.heap.size cur1).drew) HW1.out HG1.out
    have HW2 := Aside0.mk (setRow_heap ((((w.alloc (.cells ROW 9)).drew).setRow w.heap.size cur1).drew) w.heap.size cur1 cur2 _ _ HW1.out)
    have HBF := Aside0.mk (below_setRow (qAe (below_setRow (qAe (qAd (Below.refl w.heap.size w) (.cells ROW 9))) (Nat.le_refl _) cur1)) (Nat.le_refl _) cur2)
    clear hap0 hap1 hcp1 hcp2 htk2 hg hv htk hcx hcur1 hcur2 hROW hRt hRs hdl hxt hkk hik
    go_enter Tryd.func56, Tryd.ntmps56
    go_wp2_with (at_builtin; refine qAu rfl _ _ 23 3 rfl _ _ _ _ rfl rfl (HAP.out _) ?_)
    go_region_law_o (fail)
    go_wp2
    go_ret
    exact ⟨_, rfl, ⟨by simp only [List.length_append, List.length_take, List.length_drop, hl, hys]; omega, .inr ⟨w.heap.size, G, cur2, rfl, hbase, HW2.out, hge, by unfold maxLen; omega, hc2s, HT2.out⟩⟩, qA9 HBF.out _⟩
set_option maxHeartbeats 3200000 in
set_option maxRecDepth 100000 in
theorem qE8 (v : Value) (n base vb tv : Nat) (xs ys : List Value) (w : World) (ho : w.ownsRow base 25 6 v n xs) (hv : w.heap[vb]? = some (.cells ys.toArray tv (0, 0))) (hys : ys.length = 6) (hbase : base ≤ w.heap.size) (hbig : (n + 1) * 88 ≤ 140737488355328) (h1y : ∀ u ∈ ys, u.oneCell' = true) :
    Calls Tryd.prog 57 #[v, .int .i64 n, .slice (some ⟨vb, 0, none⟩) 1 1] w fun e w' => ∃ v', e = .returned v' ∧ w'.ownsRow base 25 6 v' (n + 1) (xs ++ ys) ∧ w.grownBy w' v.ownBlock := by
  obtain ⟨i0, hi0, hz0, hzs, hzb⟩ := info_parts (show (Tryd.prog.info? 25).map (fun i => (i.zero, i.size, i.bytes)) = some (some (.agg #[.int .i64 0, .bool false, .int .i64 0, .string ⟨#[]⟩, .slice none 0 0, .slice none 0 0]), 6, 88) by kernel_rfl)
  obtain ⟨hl, hcase⟩ := ho
  have hcy : ∀ j u, ys[j]? = some u → w.cell? ((⟨vb, 0, none⟩ : Addr).add j) = some u := fun j u hj => by
    rw [qBd, qAc hv j]; simpa using hj
  rcases hcase with ⟨rfl, rfl⟩ | ⟨g, cap, cur, rfl, hgb, hg, hnc, hcm, hcs, htk⟩
  · obtain rfl : xs = [] := List.length_eq_zero_iff.1 (by omega)
    have hap := fun ty => run_append_grow_src (P := Tryd.prog) (w := w) 22 22 ty 25 i0 _ Tryd.underlying22 hi0 hz0 none 0 0 []
      (run_firstCells_none _ _ _ _ _) (.slice (some ⟨vb, 0, none⟩) 1 1) 1 ys
      (by rw [hzs]; exact Src.ofSlice _ Tryd.underlying22 ⟨vb, 0, none⟩ 1 1 ys (by omega) hcy h1y) (by omega) (by omega) (by rw [hzb]; exact growslice_fits (by omega) (by omega))
    have hge := grownCap_ge w (0 + 1) 0 25
    have hle := grownCap_le_maxLen w (0 + 1) 0 25 (by unfold maxLen; omega)
    generalize grownCap w (0 + 1) 0 25 = G at *
    simp only [Nat.zero_add, List.nil_append] at hap hge
    have HAP := Aside0.mk hap
    have HGE := Aside0.mk hge
    have HLE := Aside0.mk hle
    clear hap hge hle hcy hl hv
    go_enter Tryd.func57, Tryd.ntmps57
    go_wp2_with (at_builtin; refine qAu rfl _ _ 22 22 rfl _ _ _ _ rfl rfl (HAP.out _) ?_)
    go_ret
    exact ⟨_, rfl, qBz (size := 6) (z := (.agg #[.int .i64 0, .bool false, .int .i64 0, .string ⟨#[]⟩, .slice none 0 0, .slice none 0 0] : Value).cells) (by omega) rfl HGE.out HLE.out _ rfl hbase, qA9 (qAe (qAd (Below.refl _ _) _)) _⟩
  · have hcx : ∀ j u, xs[j]? = some u → w.cell? ((⟨g, 0, none⟩ : Addr).add j) = some u := fun j u hj => by
      rw [qBd]; exact qBj hg htk j u hj
    unfold maxLen at hcm
    by_cases hroom : n + 1 ≤ cap
    · have hap := fun ty => run_append_room (P := Tryd.prog) w 22 ty 25 i0 Tryd.underlying22 hi0 g n cap cur hg ⟨vb, 0, none⟩ 1 1 ys (by rw [hzs]; omega) hcy h1y hroom (by rw [hzs, hcs, hys]; have := Nat.mul_le_mul_right 6 hroom; omega)
      have HAP := Aside0.mk hap
      have HG := Aside0.mk hg
      have HT := Aside0.mk htk
      clear hap hcy hcx hv htk hg
      go_enter Tryd.func57, Tryd.ntmps57
      go_wp2_with (at_builtin; refine qAu rfl _ _ 22 22 rfl _ _ _ _ rfl rfl (HAP.out _) ?_)
      go_ret
      refine ⟨_, rfl, ⟨by rw [List.length_append, hl, hys]; omega, .inr ⟨g, cap, _, rfl, hgb, setRow_heap _ _ _ _ _ _ HG.out, hroom, by unfold maxLen; omega, ?_, ?_⟩⟩, qBf _ _ _⟩
      · have h2 := Nat.mul_le_mul_right 6 hroom
        simp only [hzs, List.size_toArray, List.length_append, List.length_take, List.length_drop, Array.length_toList, hcs, hys]
        omega
      · have HT' : cur.toList.take (n * 6) = xs := HT.out
        simp only [hzs, Nat.mul_one] at HT' ⊢
        rw [HT', ← List.append_assoc, List.take_append_of_le_length (by rw [List.length_append, hl, hys]; omega), List.take_of_length_le (by rw [List.length_append, hl, hys]; omega)]
    · have hap := fun ty => run_append_grow_src (P := Tryd.prog) (w := w) 22 22 ty 25 i0 _ Tryd.underlying22 hi0 hz0 (some ⟨g, 0, none⟩) n cap xs
        (by rw [hzs]; exact run_firstCells_some _ 6 n ⟨g, 0, none⟩ n cap xs hl hcx) (.slice (some ⟨vb, 0, none⟩) 1 1) 1 ys
        (by rw [hzs]; exact Src.ofSlice _ Tryd.underlying22 ⟨vb, 0, none⟩ 1 1 ys (by omega) hcy h1y) (by omega) (by omega) (by rw [hzb]; exact growslice_fits (by omega) (by omega))
      have hge := grownCap_ge w (n + 1) cap 25
      have hle := grownCap_le_maxLen w (n + 1) cap 25 (by unfold maxLen; omega)
      generalize grownCap w (n + 1) cap 25 = G at *
      have HAP := Aside0.mk hap
      have HGE := Aside0.mk hge
      have HLE := Aside0.mk hle
      clear hap hge hle hcy hcx hv
      go_enter Tryd.func57, Tryd.ntmps57
      go_wp2_with (at_builtin; refine qAu rfl _ _ 22 22 rfl _ _ _ _ rfl rfl (HAP.out _) ?_)
      go_ret
      exact ⟨_, rfl, qBz (size := 6) (z := (.agg #[.int .i64 0, .bool false, .int .i64 0, .string ⟨#[]⟩, .slice none 0 0, .slice none 0 0] : Value).cells) (by rw [List.length_append, hl, hys]; omega) rfl HGE.out HLE.out _ rfl hbase, qA9 (qAe (qAd (Below.refl _ _) _)) _⟩
set_option maxHeartbeats 6400000 in
set_option maxRecDepth 100000 in
theorem qE7 (v : Value) (n i base vb tv : Nat) (xs ys : List Value) (w : World) (ho : w.ownsRow base 25 6 v n xs) (hi : i < n) (hv : w.heap[vb]? = some (.cells ys.toArray tv (0, 0))) (hys : ys.length = 6) (hne : some vb ≠ v.ownBlock) (hbase : base ≤ w.heap.size) (hbig : (n + 1) * 88 ≤ 140737488355328) (h1x : ∀ u ∈ xs, u.oneCell' = true) (h1y : ∀ u ∈ ys, u.oneCell' = true) :
    Calls Tryd.prog 57 #[v, .int .i64 i, .slice (some ⟨vb, 0, none⟩) 1 1] w fun e w' => ∃ v', e = .returned v' ∧ w'.ownsRow base 25 6 v' (n + 1) (xs.take (i * 6) ++ (ys ++ xs.drop (i * 6))) ∧ w.grownBy w' v.ownBlock := by
  obtain ⟨i0, hi0, hz0, hzs, hzb⟩ := info_parts (show (Tryd.prog.info? 25).map (fun i => (i.zero, i.size, i.bytes)) = some (some (.agg #[.int .i64 0, .bool false, .int .i64 0, .string ⟨#[]⟩, .slice none 0 0, .slice none 0 0]), 6, 88) by kernel_rfl)
  have hsi : (Tryd.prog.info? 25).map (·.size) = some 6 := by rw [hi0]; simp [hzs]
  obtain ⟨hl, hcase⟩ := ho
  rcases hcase with ⟨_, h0⟩ | ⟨g, cap, cur, rfl, hgb, hg, hnc, hcm, hcs, htk⟩
  · omega
  have hng : vb ≠ g := fun e => hne (by rw [e]; rfl)
  unfold maxLen at hcm
  have hnc1 : ¬ (cap = i) := by omega
  have hin : ¬ ((i : Int) = (n : Int)) := by omega
  have mixed : Tryd.prog.follows .mixedOrders = true := by kernel_rfl
  have hb1 : (0 : Int) ≤ (i : Int) + 1 := by omega
  have hin' : i ≤ n := by omega
  have htn : ((i : Int) + 1).toNat = i + 1 := by omega
  have hb3 : (i : Int) ≤ (n : Int) + 1 := by omega
  have hdl : (xs.drop (i * 6)).length = (n - i) * 6 := by rw [List.length_drop, hl]; omega
  by_cases hroom : n + 1 ≤ cap
  · have hw1 : IntKind.i64.wrap ((i : Int) + 1) = ((i + 1 : Nat) : Int) := by rw [IntKind.wrap_i64]; omega
    have hnc2 : ¬ (cap = i + 1) := by omega
    have hov : ∀ lb cb W, W.heap[vb]? = some (.cells ys.toArray tv (0, 0)) → W.heap[g]? = some (.cells cur 25 (0, 0)) → (callFunc 80 #[.slice (some ⟨vb, 0, none⟩) 1 1, .slice (some ⟨g, (i + 1) * 6, none⟩) lb cb]).run Tryd.prog W = .ok (.value (.bool false)) W := fun lb cb W hv hg => by
      rw [run_callFunc_extern Tryd.func80 (by kernel_rfl) (by kernel_rfl) (by kernel_rfl) (e := Extern.SlicesOverlaps.overlaps #[22, 22] #[4]) (by kernel_rfl),
        Lib.run_overlaps_apart W 22 4 25 Tryd.underlying22 6 Tryd.sizeOf25 ⟨vb, 0, none⟩ ⟨g, (i + 1) * 6, none⟩ 1 1 lb cb hng tv 25 ys.length (cap * 6) (by simp [World.shape?, hv]) (by simp [World.shape?, hg, hcs]) (by omega) (qAa hv 0) (qAa hv _)]
      rfl
    have h6 : (n - i) * 6 + i * 6 = n * 6 := by rw [← Nat.add_mul]; congr 1; omega
    have h7 : (i + 1) * 6 + (n - i) * 6 ≤ cap * 6 := by rw [← Nat.add_mul]; exact Nat.mul_le_mul_right _ (by omega)
    have h8 : i * 6 + 6 ≤ cap * 6 := by
      have := Nat.mul_le_mul_right 6 (show i + 1 ≤ cap by omega)
      rw [Nat.add_mul] at this; omega
    obtain ⟨cur1, hcur1⟩ : ∃ c : Array Value, c = (cur.toList.take ((i + 1) * 6) ++ xs.drop (i * 6) ++ cur.toList.drop ((i + 1) * 6 + (xs.drop (i * 6)).length)).toArray := ⟨_, rfl⟩
    obtain ⟨cur2, hcur2⟩ : ∃ c : Array Value, c = (cur1.toList.take (i * 6) ++ ys ++ cur1.toList.drop (i * 6 + ys.length)).toArray := ⟨_, rfl⟩
    have hc1s : cur1.size = cap * 6 := by
      rw [hcur1]; simp only [List.size_toArray, List.length_append, List.length_take, List.length_drop, Array.length_toList, hcs, hl]; omega
    have hc2s : cur2.size = cap * 6 := by
      rw [hcur2]; simp only [List.size_toArray, List.length_append, List.length_take, List.length_drop, Array.length_toList, hc1s, hys]; omega
    have hcp1 : ∀ W : World, W.heap[g]? = some (.cells cur 25 (0, 0)) → ∀ ty dc sc, (Builtin.copy_ #[22, 22] ty #[.slice (some ⟨g, (i + 1) * 6, none⟩) (n - i) dc, .slice (some ⟨g, i * 6, none⟩) (n + 1 - i) sc]).run Tryd.prog W = .ok (goInt (n - i : Nat)) (W.setRow g cur1) := fun W hW ty dc sc => by
      rw [hcur1]
      exact qA5 W _ _ ty _ g ((i + 1) * 6) (n - i) dc ⟨g, i * 6, none⟩ (n + 1 - i) sc cur _ (xs.drop (i * 6)) 6 (n - i) Tryd.underlying22 hsi hW (by simp only [Nat.min_def]; split <;> omega) hdl
        (fun j u hj => by
          rw [Addr.add_lit]
          exact qBj hW htk _ u (by rw [List.getElem?_drop] at hj; exact (congrArg (fun k => xs[k]?) (by omega)).trans hj)) (by rw [hdl, hcs]; omega) (fun u hu => h1x u (List.mem_of_mem_drop hu))
    have hcp2 : ∀ W : World, W.heap[g]? = some (.cells cur1 25 (0, 0)) → W.heap[vb]? = some (.cells ys.toArray tv (0, 0)) → ∀ ty dc, (Builtin.copy_ #[22, 22] ty #[.slice (some ⟨g, i * 6, none⟩) (n + 1 - i) dc, .slice (some ⟨vb, 0, none⟩) 1 1]).run Tryd.prog W = .ok (goInt (1 : Nat)) (W.setRow g cur2) := fun W hW hV ty dc => by
      rw [hcur2]
      exact qA5 W _ _ ty _ g (i * 6) (n + 1 - i) dc ⟨vb, 0, none⟩ 1 1 cur1 _ ys 6 1 Tryd.underlying22 hsi hW (by simp only [Nat.min_def]; split <;> omega) (by omega)
        (fun j u hj => by rw [qBd, qAc hV j]; simpa using hj) (by rw [hys, hc1s]; omega) h1y
    have h9 : i * 6 + (n - i) * 6 = n * 6 := by omega
    have htk2 : cur2.toList.take ((n + 1) * 6) = xs.take (i * 6) ++ (ys ++ xs.drop (i * 6)) := by
      rw [hcur2, hcur1]
      exact qDk cur.toList xs ys (i * 6) 6 ((n - i) * 6) _ _ (by omega) (by omega) (by rw [h9]; exact htk) (by rw [h9]; exact hl) hys (by rw [Array.length_toList, hcs]; omega) _ (by omega)
    have HG := Aside0.mk hg
    have HV := Aside0.mk hv
    have HOV := Aside0.mk hov
    have HT := Aside0.mk htk
    have hov1 := fun lb cb => HOV.out lb cb w hv hg
    clear hg hv htk hov hdl
    go_enter Tryd.func57, Tryd.ntmps57
    have HC1 := Aside0.mk hcp1
    have HC2 := Aside0.mk hcp2
    have HT2 := Aside0.mk htk2
    clear hcp1 hcp2 htk2 hcur1 hcur2
    go_wp2_with (simp only [hov1])
    have hcd := HC1.out w.drew HG.out
    have HW1 := Aside0.mk (setRow_heap w.drew g cur cur1 _ _ HG.out)
    have HV1 := Aside0.mk ((setRow_other w.drew g vb cur1 hng).trans HV.out)
    have hce := HC2.out (w.drew.setRow g cur1) HW1.out HV1.out
    go_region_law_o (fail)
    go_wp2
    go_ret
    exact ⟨_, rfl, ⟨by simp only [List.length_append, List.length_take, List.length_drop, hl, hys]; omega, .inr ⟨g, cap, cur2, rfl, hgb, setRow_heap _ _ _ _ _ _ HW1.out, hroom, by unfold maxLen; omega, hc2s, HT2.out⟩⟩, qBp (qBp (qA9 (qAe (Below.refl _ _)) _) (qBf _ _ _)) (qBf _ _ _)⟩
  · have hw1 : IntKind.i64.wrap ((i : Int) + 1) = (i : Int) + 1 := by rw [IntKind.wrap_i64]; omega
    have hz3 : (cap : Int) < (n : Int) + 1 := by omega
    have hkk : (n : Int) + 1 - (i : Int) = ((n + 1 - i : Nat) : Int) := by omega
    have hik : i + (n + 1 - i) = n + 1 := by omega
    have h6 : (n - i) * 6 + i * 6 = n * 6 := by rw [← Nat.add_mul]; congr 1; omega
    have hxt : (xs.take (i * 6)).length = i * 6 := by rw [List.length_take, hl]; omega
    have hcx : ∀ j u, xs[j]? = some u → w.cell? ((⟨g, 0, none⟩ : Addr).add j) = some u := fun j u hj => by
      rw [qBd]; exact qBj hg htk j u hj
    have hap0 := fun ty => Lib.run_append_grow_zeros (P := Tryd.prog) w 22 3 ty 25 i0 _ .i64 .i64 Tryd.underlying22 Tryd.underlying3 hi0 hz0 (some ⟨g, 0, none⟩) i cap (xs.take (i * 6))
      (by rw [hzs]; exact run_firstCells_some _ 6 i ⟨g, 0, none⟩ i cap _ hxt (fun j u hj => by
        rw [List.getElem?_take] at hj
        split at hj
        · exact hcx j u hj
        · cases hj)) (n + 1 - i) (by omega) (by rw [hzs]; omega) (by omega) (by omega) (by rw [hzb]; omega) (by rw [hzb, hik]; exact growslice_fits (by omega) hbig)
    rw [hik] at hap0
    have hge := grownCap_ge w (n + 1) cap 25
    have hle := grownCap_le_maxLen w (n + 1) cap 25 (by unfold maxLen; omega)
    generalize grownCap w (n + 1) cap 25 = G at *
    unfold maxLen at hle
    obtain ⟨ROW, hROW⟩ : ∃ R : Array Value, R = (xs.take (i * 6)).toArray ++ Builtin.zeroCells (.agg #[.int .i64 0, .bool false, .int .i64 0, .string ⟨#[]⟩, .slice none 0 0, .slice none 0 0] : Value).cells (n + 1 - i) ++ Builtin.zeroCells (.agg #[.int .i64 0, .bool false, .int .i64 0, .string ⟨#[]⟩, .slice none 0 0, .slice none 0 0] : Value).cells (G - (n + 1)) := ⟨_, rfl⟩
    rw [← hROW] at hap0
    have hzc : (.agg #[.int .i64 0, .bool false, .int .i64 0, .string ⟨#[]⟩, .slice none 0 0, .slice none 0 0] : Value).cells.size = 6 := rfl
    have hRs : ROW.size = G * 6 := by
      rw [hROW]
      simp only [Array.size_append, qBv, hzc, List.size_toArray, hxt]
      rw [← Nat.add_mul, ← Nat.add_mul]
      congr 1
      omega
    have hRt : ROW.toList.take (i * 6) = xs.take (i * 6) := by
      rw [hROW, Array.toList_append, Array.toList_append, List.append_assoc, List.take_append_of_le_length (by simp only [hxt]; omega)]
      exact List.take_of_length_le (by simp only [hxt]; omega)
    have h7 : (i + 1) * 6 + (n - i) * 6 ≤ G * 6 := by rw [← Nat.add_mul]; exact Nat.mul_le_mul_right _ (by omega)
    have h8 : i * 6 + 6 = (i + 1) * 6 := by omega
    obtain ⟨cur1, hcur1⟩ : ∃ c : Array Value, c = (ROW.toList.take (i * 6) ++ ys ++ ROW.toList.drop (i * 6 + ys.length)).toArray := ⟨_, rfl⟩
    obtain ⟨cur2, hcur2⟩ : ∃ c : Array Value, c = (cur1.toList.take ((i + 1) * 6) ++ xs.drop (i * 6) ++ cur1.toList.drop ((i + 1) * 6 + (xs.drop (i * 6)).length)).toArray := ⟨_, rfl⟩
    have hc1s : cur1.size = G * 6 := by
      rw [hcur1]; simp only [List.size_toArray, List.length_append, List.length_take, List.length_drop, Array.length_toList, hRs, hys]; omega
    have hc2s : cur2.size = G * 6 := by
      rw [hcur2]; simp only [List.size_toArray, List.length_append, List.length_take, List.length_drop, Array.length_toList, hc1s, hl]; omega
    have hcp1 : ∀ W : World, W.heap[w.heap.size]? = some (.cells ROW 25 (0, 0)) → W.heap[vb]? = some (.cells ys.toArray tv (0, 0)) → ∀ ty dc, (Builtin.copy_ #[22, 22] ty #[.slice (some ⟨w.heap.size, i * 6, none⟩) (n + 1 - i) dc, .slice (some ⟨vb, 0, none⟩) 1 1]).run Tryd.prog W = .ok (goInt (1 : Nat)) (W.setRow w.heap.size cur1) := fun W hW hV ty dc => by
      rw [hcur1]
      exact qA5 W _ _ ty _ w.heap.size (i * 6) (n + 1 - i) dc ⟨vb, 0, none⟩ 1 1 ROW _ ys 6 1 Tryd.underlying22 hsi hW (by simp only [Nat.min_def]; split <;> omega) (by omega)
        (fun j u hj => by rw [qBd, qAc hV j]; simpa using hj) (by rw [hys, hRs]; omega) h1y
    have hcp2 : ∀ W : World, W.heap[w.heap.size]? = some (.cells cur1 25 (0, 0)) → W.heap[g]? = some (.cells cur 25 (0, 0)) → ∀ ty dc sc, (Builtin.copy_ #[22, 22] ty #[.slice (some ⟨w.heap.size, (i + 1) * 6, none⟩) (n - i) dc, .slice (some ⟨g, i * 6, none⟩) (n - i) sc]).run Tryd.prog W = .ok (goInt (n - i : Nat)) (W.setRow w.heap.size cur2) := fun W hW hG ty dc sc => by
      rw [hcur2]
      exact qA5 W _ _ ty _ w.heap.size ((i + 1) * 6) (n - i) dc ⟨g, i * 6, none⟩ (n - i) sc cur1 _ (xs.drop (i * 6)) 6 (n - i) Tryd.underlying22 hsi hW (by simp only [Nat.min_def]; split <;> omega) hdl
        (fun j u hj => by
          rw [Addr.add_lit]
          exact qBj hG htk _ u (by rw [List.getElem?_drop] at hj; exact (congrArg (fun k => xs[k]?) (by omega)).trans hj)) (by rw [hdl, hc1s]; omega) (fun u hu => h1x u (List.mem_of_mem_drop hu))
    have htk2 : cur2.toList.take ((n + 1) * 6) = xs.take (i * 6) ++ (ys ++ xs.drop (i * 6)) := by
      have e1 : cur1.toList.take ((i + 1) * 6) = xs.take (i * 6) ++ ys := by
        rw [hcur1]
        have : (ROW.toList.take (i * 6) ++ ys).length = (i + 1) * 6 := by
          rw [List.length_append, List.length_take, Array.length_toList, hRs, hys]; omega
        rw [List.take_append_of_le_length (by omega), List.take_of_length_le (by omega)]
        rw [show ROW.toList.take (i * 6) = xs.take (i * 6) from (congrArg (fun k => ROW.toList.take k) (by omega)).trans hRt]
      rw [hcur2, e1]
      have e4 : (xs.take (i * 6) ++ ys ++ xs.drop (i * 6)).length = (n + 1) * 6 := by
        rw [List.length_append, List.length_append, hxt, hys, hdl]; omega
      rw [List.take_append_of_le_length (by omega), List.take_of_length_le (by omega), List.append_assoc]
    have hap1 : ∀ ty, (Builtin.append_ #[22, 3] ty #[.slice (some ⟨g, 0, none⟩) i cap, .int .i64 ((n : Int) + 1 - (i : Int))]).run Tryd.prog w = .ok (.slice (some ⟨w.heap.size, 0, none⟩) (n + 1) G) (w.drew.alloc (.cells ROW 25)) := fun ty => by
      rw [hkk]; exact hap0 ty
    have HAP := Aside0.mk hap1
    have HC1 := Aside0.mk hcp1
    have HC2 := Aside0.mk hcp2
    have HT2 := Aside0.mk htk2
    have HG := Aside0.mk hg
    have HV := Aside0.mk hv
    have hgl := blk_lt hg
    have hvl := blk_lt hv
    have HN0 := Aside0.mk (qBe w.drew (.cells ROW 25))
    have HG0 := Aside0.mk (blk_alloc' (w := w.drew) hg (.cells ROW 25))
    have HV0 := Aside0.mk (blk_alloc' (w := w.drew) hv (.cells ROW 25))
    have HB0 := Aside0.mk (qAd (qAe (Below.refl w.heap.size w)) (.cells ROW 25))
    have hGi : ¬ (G = i) := by omega
    have hGim : ¬ (G = i + 1) := by omega
    have hcdA := HC1.out ((w.alloc (.cells ROW 25)).drew) HN0.out HV0.out
    have HW1 := Aside0.mk (setRow_heap ((w.alloc (.cells ROW 25)).drew) w.heap.size ROW cur1 _ _ HN0.out)
    have HG1 := Aside0.mk ((setRow_other ((w.alloc (.cells ROW 25)).drew) w.heap.size g cur1 (by omega)).trans HG0.out)
    have hcdB := HC2.out ((((w.alloc (.cells ROW 25)).drew).setRow w.heap.size cur1).drew) HW1.out HG1.out
    have HW2 := Aside0.mk (setRow_heap ((((w.alloc (.cells ROW 25)).drew).setRow w.heap.size cur1).drew) w.heap.size cur1 cur2 _ _ HW1.out)
    have HBF := Aside0.mk (below_setRow (qAe (below_setRow (qAe (qAd (Below.refl w.heap.size w) (.cells ROW 25))) (Nat.le_refl _) cur1)) (Nat.le_refl _) cur2)
    clear hap0 hap1 hcp1 hcp2 htk2 hg hv htk hcx hcur1 hcur2 hROW hRt hRs hdl hxt hkk hik
    go_enter Tryd.func57, Tryd.ntmps57
    go_wp2_with (at_builtin; refine qAu rfl _ _ 22 3 rfl _ _ _ _ rfl rfl (HAP.out _) ?_)
    go_region_law_o (fail)
    go_wp2
    go_ret
    exact ⟨_, rfl, ⟨by simp only [List.length_append, List.length_take, List.length_drop, hl, hys]; omega, .inr ⟨w.heap.size, G, cur2, rfl, hbase, HW2.out, hge, by unfold maxLen; omega, hc2s, HT2.out⟩⟩, qA9 HBF.out _⟩
end Go.Proofs.YtbnoihpooeombaaDoor.X

namespace Go.Proofs.YtbnoihpooeombaaDoor.X
open Go.RowKit Go.Proofs.YtbnoihpooeombaaDoorW.PrintWords Go.Proofs.YtbnoihpooeombaaDoorW.PrintLast Go.Proofs.YtbnoihpooeombaaDoorW.PrintMore Go.Proofs.YtbnoihpooeombaaDoor.P
set_option linter.unusedVariables false
set_option linter.unusedSimpArgs false
theorem reps_append {α : Type} {R : α → List Value → Prop} {s : Nat} {ps qs : List α} {cs ds : List Value} (h : Reps R s ps cs) (g : Reps R s qs ds) : Reps R s (ps ++ qs) (cs ++ ds) := by
  refine ⟨by rw [List.length_append, List.length_append, h.1, g.1, Nat.add_mul], fun j p hj => ?_⟩
  by_cases c : j < ps.length
  · rw [List.getElem?_append_left c] at hj
    have hm := Nat.mul_le_mul_right s (show j + 1 ≤ ps.length from c)
    rw [Nat.add_mul, Nat.one_mul, ← h.1] at hm
    rw [List.drop_append_of_le_length (by omega), List.take_append_of_le_length (by rw [List.length_drop]; omega)]
    exact h.2 j p hj
  · rw [List.getElem?_append_right (by omega)] at hj
    have e : (cs ++ ds).drop (j * s) = ds.drop ((j - ps.length) * s) := by
      have hm := Nat.mul_le_mul_right s (show ps.length ≤ j by omega)
      rw [List.drop_append, List.drop_of_length_le (by rw [h.1]; exact hm), List.nil_append, h.1, Nat.sub_mul]
    rw [e]
    exact g.2 _ p hj
theorem qGj {α : Type} {R : α → List Value → Prop} {s : Nat} {ps : List α} {cs : List Value} (h : Reps R s ps cs) (i : Nat) (hi : i ≤ ps.length) : Reps R s (ps.take i) (cs.take (i * s)) := by
  have hm := Nat.mul_le_mul_right s hi
  refine ⟨by rw [List.length_take, List.length_take, h.1, Nat.min_eq_left hm, Nat.min_eq_left hi], fun j p hj => ?_⟩
  rw [List.getElem?_take] at hj
  split at hj
  · rename_i c
    have hm2 := Nat.mul_le_mul_right s (show j + 1 ≤ i from c)
    rw [Nat.add_mul, Nat.one_mul] at hm2
    rw [List.drop_take, List.take_take, Nat.min_eq_left (by omega)]
    exact h.2 j p hj
  · cases hj
theorem qGk {α : Type} {R : α → List Value → Prop} {s : Nat} {ps : List α} {cs : List Value} (h : Reps R s ps cs) (i : Nat) : Reps R s (ps.drop i) (cs.drop (i * s)) := by
  refine ⟨by rw [List.length_drop, List.length_drop, h.1, Nat.sub_mul], fun j p hj => ?_⟩
  rw [List.getElem?_drop] at hj
  rw [List.drop_drop, ← Nat.add_mul]
  exact h.2 _ p hj
theorem qHe {α : Type} {R : α → List Value → Prop} {s : Nat} {p : α} {c : List Value} (hp : R p c) (hc : c.length = s) : Reps R s [p] c := by
  refine ⟨by rw [hc]; simp, fun j q hj => ?_⟩
  cases j with
  | zero => cases hj; rw [Nat.zero_mul, List.drop_zero, List.take_of_length_le (by omega)]; exact hp
  | succ j => simp at hj
theorem qDb {α : Type} {R : α → List Value → Prop} {s : Nat} {ps : List α} {cs c : List Value} {p : α} (h : Reps R s ps cs) (i : Nat) (hi : i ≤ ps.length) (hp : R p c) (hc : c.length = s) :
    Reps R s (ps.take i ++ p :: ps.drop i) (cs.take (i * s) ++ (c ++ cs.drop (i * s))) :=
  reps_append (qGj h i hi) (reps_append (qHe hp hc) (qGk h i))
theorem qDx {α : Type} {d : Kd α} {w : World} {xs : List α} {cs : List Value} (hz : 0 < d.sz) (hr : Reps (d.K w) d.sz xs cs) : ∀ u ∈ cs, u.oneCell' = true := by
  intro u hu
  obtain ⟨j, hj, rfl⟩ := List.mem_iff_getElem.1 hu
  have hl := hr.1
  have hq : j / d.sz < xs.length := by
    rw [Nat.div_lt_iff_lt_mul hz]; omega
  have hK := hr.2 (j / d.sz) _ (List.getElem?_eq_getElem hq)
  refine d.K_one hK _ ?_
  have hm : j / d.sz * d.sz + j % d.sz = j := Nat.div_add_mod' j d.sz
  have hlt := Nat.mod_lt j hz
  refine List.mem_iff_getElem?.2 ⟨j % d.sz, ?_⟩
  rw [List.getElem?_take_of_lt hlt, List.getElem?_drop, hm, List.getElem?_eq_getElem hj]
theorem below_grown' {w0 w w1 : World} {r : Option Nat} (h : Below w0.heap.size w0 w) (hg : w.grownBy w1 r) (hc : ∀ k, r = some k → w0.heap.size ≤ k) : Below w0.heap.size w0 w1 :=
  ⟨hg.os.trans h.os, hg.tape.trans h.tape, hg.output.trans h.output, by have := h.size; have := hg.size; omega, fun k hk => (hg.block k (by have := h.size; omega) (fun e => by have := hc k e.symm; omega)).trans (h.block k hk)⟩
theorem qF3 {w0 w w1 : World} {r : Option Nat} (hb : Below w0.heap.size w0 w) (hg : w.grownBy w1 r) : w0.grownBy w1 r := qBp (qA9 hb r) hg
theorem qEp {w : World} {b1 b2 z1 z2 n1 n2 e1 e2 : Nat} {v1 v2 : Value} {xs1 xs2 : List Value} (h1 : w.ownsRow b1 e1 z1 v1 n1 xs1) (h2 : w.ownsRow b2 e2 z2 v2 n2 xs2) (hne : e1 ≠ e2) : ∀ g, v1.ownBlock = some g → v2.ownBlock = some g → False := by
  intro g g1 g2
  obtain ⟨c1, t1⟩ := qDd h1 g g1
  obtain ⟨c2, t2⟩ := qDd h2 g g2
  rw [t1] at t2
  injection t2 with t2
  injection t2 with _ t2 _
  exact hne t2
theorem qE0 {w : World} {base e size n c : Nat} {a : Option Addr} {xs : List Value} (h : w.ownsRow base e size (.slice a n c) n xs) : n ≤ c := by
  rcases h.2 with ⟨h1, h2⟩ | ⟨g, cap, cur, h1, _, _, h2, _⟩
  · cases h1; omega
  · cases h1; exact h2
theorem qFc (v : Value) (n i base vb tv : Nat) (xs ys : List Value) (w : World) (ho : w.ownsRow base 9 1 v n xs) (hi : i ≤ n) (hv : w.heap[vb]? = some (.cells ys.toArray tv (0, 0))) (hys : ys.length = 1) (hne : some vb ≠ v.ownBlock) (hbase : base ≤ w.heap.size) (hbig : (n + 1) * 16 ≤ 140737488355328) (h1x : ∀ u ∈ xs, u.oneCell' = true) (h1y : ∀ u ∈ ys, u.oneCell' = true) :
    Calls Tryd.prog 56 #[v, .int .i64 i, .slice (some ⟨vb, 0, none⟩) 1 1] w fun e w' => ∃ v', e = .returned v' ∧ w'.ownsRow base 9 1 v' (n + 1) (xs.take (i * 1) ++ (ys ++ xs.drop (i * 1))) ∧ w.grownBy w' v.ownBlock := by
  by_cases c : i < n
  · exact qFa v n i base vb tv xs ys w ho c hv hys hne hbase hbig h1x h1y
  · have e : i = n := by omega
    subst e
    rw [List.take_of_length_le (by rw [ho.1]; omega), List.drop_of_length_le (by rw [ho.1]; omega), List.append_nil]
    exact qFb v i base vb tv xs ys w ho hv hys hbase hbig h1y
theorem qE9 (v : Value) (n i base vb tv : Nat) (xs ys : List Value) (w : World) (ho : w.ownsRow base 25 6 v n xs) (hi : i ≤ n) (hv : w.heap[vb]? = some (.cells ys.toArray tv (0, 0))) (hys : ys.length = 6) (hne : some vb ≠ v.ownBlock) (hbase : base ≤ w.heap.size) (hbig : (n + 1) * 88 ≤ 140737488355328) (h1x : ∀ u ∈ xs, u.oneCell' = true) (h1y : ∀ u ∈ ys, u.oneCell' = true) :
    Calls Tryd.prog 57 #[v, .int .i64 i, .slice (some ⟨vb, 0, none⟩) 1 1] w fun e w' => ∃ v', e = .returned v' ∧ w'.ownsRow base 25 6 v' (n + 1) (xs.take (i * 6) ++ (ys ++ xs.drop (i * 6))) ∧ w.grownBy w' v.ownBlock := by
  by_cases c : i < n
  · exact qE7 v n i base vb tv xs ys w ho c hv hys hne hbase hbig h1x h1y
  · have e : i = n := by omega
    subst e
    rw [List.take_of_length_le (by rw [ho.1]; omega), List.drop_of_length_le (by rw [ho.1]; omega), List.append_nil]
    exact qE8 v i base vb tv xs ys w ho hv hys hbase hbig h1y
def ofL (k : Nat) : List ByteArray → List S25 → List ByteArray → List S25 → Option (List ByteArray × List S25)
  | key :: ks, v :: vs, K, V => (slices_BinarySearch_string_string.f k K key).bind fun q => if q.2 = true then ofL k ks vs K V else if 0 ≤ q.1 ∧ q.1 ≤ (K.length : Int) then ofL k ks vs (K.take q.1.toNat ++ key :: K.drop q.1.toNat) (V.take q.1.toNat ++ v :: V.drop q.1.toNat) else none
  | _, _, K, V => some (K, V)
def ofR (K : List ByteArray) (V : List S25) : Int × Bool × Int × ByteArray × List S25 × List ByteArray :=
  if (mayV 16 ⟨5, false, 0, ByteArray.empty, V, K⟩ 0).2 = true then (5, false, 0, ByteArray.empty, V, K) else (0, false, 0, ByteArray.empty, [], [])
def value_Of.f (k : Nat) (l0 : List ByteArray) (l1 : List S25) : Option (Int × Bool × Int × ByteArray × List S25 × List ByteArray) :=
  if l0.length ≤ 100000 then (ofL k l0 l1 [] []).map fun q => ofR q.1 q.2 else none
theorem qD9 (k : Nat) : ∀ ks vs K V, LeO (ofL k ks vs K V) (ofL (k + 1) ks vs K V)
  | key :: ks, v :: vs, K, V => by
    unfold ofL
    exact LeO.bind (slices_BinarySearch_string_string.mono _ _ _) (fun _ => LeO.ite (qD9 k ks vs K V) (LeO.ite (qD9 k ks vs _ _) (LeO.refl _)))
  | [], vs, K, V => by cases vs <;> exact LeO.refl _
  | _ :: _, [], K, V => LeO.refl _
theorem value_Of.mono : ∀ a0 a1 k, LeO (value_Of.f k a0 a1) (value_Of.f (k + 1) a0 a1) := by
  intro a0 a1 k
  unfold value_Of.f
  refine LeO.ite ?_ (LeO.refl _)
  intro r h
  obtain ⟨q, hq, rfl⟩ := Option.map_eq_some_iff.1 h
  rw [qD9 k _ _ _ _ q hq]
  rfl
end Go.Proofs.YtbnoihpooeombaaDoor.X

namespace Go.Proofs.YtbnoihpooeombaaDoor.X
open Go.RowKit Go.Proofs.YtbnoihpooeombaaDoorW.PrintWords Go.Proofs.YtbnoihpooeombaaDoorW.PrintLast Go.Proofs.YtbnoihpooeombaaDoorW.PrintMore Go.Proofs.YtbnoihpooeombaaDoor.P
set_option linter.unusedVariables false
set_option linter.unusedSimpArgs false
theorem qHj (k : Nat) (vs V : List S25) (K : List ByteArray) : ofL k [] vs K V = some (K, V) := by cases vs <;> simp [ofL]
theorem qHi (k : Nat) (ks K : List ByteArray) (V : List S25) : ofL k ks [] K V = some (K, V) := by cases ks <;> simp [ofL]
attribute [local go_sem] qAy
set_option maxHeartbeats 4000000 in
set_option maxRecDepth 100000 in
theorem value_Of.calls (k : Nat) (A0 : Option Addr) (c0 : Nat) (l0 : List ByteArray) (A1 : Option Addr) (c1 : Nat) (l1 : List S25) (r1 : Int) (r2 : Bool) (r3 : Int) (r4 : ByteArray) (r5 : List S25) (r6 : List ByteArray) (w : World)
    (hr0 : Kd.C Kd.string w A0 l0.length l0) (hc0 : l0.length ≤ c0) (hr1 : Kd.C k25 w A1 l1.length l1) (hc1 : l1.length ≤ c1)
    (h : value_Of.f k l0 l1 = some (r1, r2, r3, r4, r5, r6)) :
    Calls Tryd.prog 30 #[.slice A0 l0.length c0, .slice A1 l1.length c1] w fun e w' =>
      ∃ v4 v5 : Value, e = .returned (.agg #[.int .i64 r1, .bool r2, .int .i64 r3, .string r4, v4, v5]) ∧ k25.R 25 w' w.heap.size (fun k_ => some k_ ≠ (v5 : Value).ownBlock) v4 r5 ∧ Kd.string.R 9 w' w.heap.size (fun _ => True) v5 r6 ∧ Below w.heap.size w w' := by
  have X0 := Aside0.mk hr0
  have X1 := Aside0.mk hr1
  have hm0 : l0.length ≤ 9223372036854775807 := hr0.2.1
  have hm1 : l1.length ≤ 9223372036854775807 := hr1.2.1
  obtain ⟨hl, h⟩ : l0.length ≤ 100000 ∧ ((ofL k l0 l1 [] []).map fun q => ofR q.1 q.2) = some (r1, r2, r3, r4, r5, r6) := by
    unfold value_Of.f at h
    split at h
    · rename_i hl; exact ⟨hl, h⟩
    · cases h
  have H := Aside0.mk h
  clear hr0 hr1 h
  obtain ⟨m, hmn, hm2, hm3, hm4⟩ : ∃ m : Nat, Builtin.min2 (.int .i64 (l0.length : Int)) (.int .i64 (l1.length : Int)) = pure (.int .i64 (m : Int)) ∧ m ≤ l0.length ∧ m ≤ l1.length ∧ (m = l0.length ∨ m = l1.length) := by
    by_cases c : (l1.length : Int) < (l0.length : Int)
    · exact ⟨l1.length, by rw [qAr, if_pos c], by omega, by omega, .inr rfl⟩
    · exact ⟨l0.length, by rw [qAr, if_neg c], by omega, by omega, .inl rfl⟩
  have HM := Aside0.mk hm4
  clear hm4
  have HB0 := Aside0.mk (qAd (qAd (Below.refl w.heap.size w) (.cells #[.int .i64 0, .bool false, .int .i64 0, .string ⟨#[]⟩, .slice none 0 0, .slice none 0 0] 25)) (.cells #[.int .i64 5, .bool false, .int .i64 0, .string ⟨#[]⟩, .slice none 0 0, .slice none 0 0] 25))
  have HT := Aside0.mk (qC8 w #[.int .i64 0, .bool false, .int .i64 0, .string ⟨#[]⟩, .slice none 0 0, .slice none 0 0] #[.int .i64 5, .bool false, .int .i64 0, .string ⟨#[]⟩, .slice none 0 0, .slice none 0 0] 25 25)
  go_enter Tryd.func30, Tryd.ntmps30
  go_wp2_with fail
  generalize (w.alloc (.cells #[.int .i64 0, .bool false, .int .i64 0, .string ⟨#[]⟩, .slice none 0 0, .slice none 0 0] 25)).alloc (.cells #[.int .i64 5, .bool false, .int .i64 0, .string ⟨#[]⟩, .slice none 0 0, .slice none 0 0] 25) = W0 at *
  have hw0 : w.heap.size + 2 ≤ W0.heap.size := by have := blk_lt HT.out.2; omega
  clear hmn
  go_loopw [19] (fun v19 wr => ∃ (i : Nat) (K : List ByteArray) (V : List S25) (s4 s5 : Value) (n4 n5 : List Value), v19 = .int .i64 i ∧ i ≤ m ∧ Aside0 (V.length = K.length) ∧ K.length ≤ i ∧ Aside0 (Below w.heap.size w wr) ∧ w.heap.size + 2 ≤ wr.heap.size ∧ Aside0 (wr.heap[w.heap.size]? = some (.cells #[.int .i64 0, .bool false, .int .i64 0, .string ⟨#[]⟩, .slice none 0 0, .slice none 0 0] 25 (0, 0))) ∧ Aside0 (wr.heap[w.heap.size + 1]? = some (.cells #[.int .i64 5, .bool false, .int .i64 0, .string ⟨#[]⟩, s4, s5] 25 (0, 0))) ∧ Aside0 (wr.ownsRow (w.heap.size + 2) 25 6 s4 K.length n4) ∧ Aside0 (wr.ownsRow (w.heap.size + 2) 9 1 s5 K.length n5) ∧ Aside0 (Reps (k25.K w) 6 V n4) ∧ Aside0 (Reps (Kd.string.K w) 1 K n5) ∧ Aside0 ((ofL k (l0.drop i) (l1.drop i) K V).map (fun q => ofR q.1 q.2) = some (r1, r2, r3, r4, r5, r6))) (fun v _ => m - (intOf v).toNat)
  case atStart => exact ⟨0, [], [], .slice none 0 0, .slice none 0 0, [], [], rfl, by omega, ⟨rfl⟩, by simp, HB0, hw0, ⟨HT.out.1⟩, ⟨HT.out.2⟩, ⟨⟨rfl, .inl ⟨rfl, rfl⟩⟩⟩, ⟨⟨rfl, .inl ⟨rfl, rfl⟩⟩⟩, ⟨Reps.none _ _⟩, ⟨Reps.none _ _⟩, ⟨H.out⟩⟩
  case round =>
    clear HT HB0 H
    obtain ⟨i, K, V, s4, s5, n4, n5, rfl, hi, hKV, hKi, HB, hws, HZ, HO, O4, O5, R4, R5, H⟩ := hrel
    by_cases hlt : i < m
    · have hcond : (i : Int) < (m : Int) := by omega
      obtain ⟨ad, rfl, hkey⟩ := Kd.at_string (Kd.C_below X0.out HB.out) (i : Int) (by omega) (by omega)
      simp only [Int.toNat_natCast] at hkey
      have HK := Aside0.mk (show rdOf ByteArray.empty l0 (i : Int) = l0[i] from by simp [rdOf, List.getD_eq_getElem?_getD, show i < l0.length by omega])
      obtain ⟨a5, b5, hrd5⟩ := qBn O5.out (R5.out.imp_ (fun p c h => Kd.string.K_below HB.out h)) rfl
      obtain ⟨rfl, hC5⟩ := hrd5
      obtain ⟨a4, b4, rfl⟩ := qB6 O4.out
      generalize rdOf ByteArray.empty l0 (i : Int) = key at *
      obtain ⟨y0, y1, y2, y3, y4, y5⟩ := qAt HO.out
      have hOf := fun k => qAa HO.out k
      have hcap := qE0 O5.out
      have h := H.out
      clear H
      rw [List.drop_eq_getElem_cons (show i < l0.length by omega), List.drop_eq_getElem_cons (show i < l1.length by omega), ← HK.out] at h
      rw [ofL] at h
      obtain ⟨q, hq, h⟩ := Option.map_eq_some_iff.1 h
      obtain ⟨⟨q1, q2⟩, hqq, hq⟩ := Option.bind_eq_some_iff.1 hq
      have HQ := Aside0.mk hqq
      have HR := Aside0.mk h
      clear h hqq
      go_wp2_with fail
      refine (slices_BinarySearch_string_string.calls k a5 b5 K key q1 q2 wr hC5 hcap HQ.out).mono ?_
      rintro e w3 ⟨rfl, hd3⟩
      have hb3 := hd3.below
      clear hd3 hC5 HQ hOf y0 y1 y2 y3 y4 y5 hkey
      have HB3 := Aside0.mk (qAi HB.out hb3)
      have HZ3 := Aside0.mk (qAk HZ.out hb3)
      have HO3 := Aside0.mk (qAk HO.out hb3)
      have P4 := Aside0.mk (qBs O4.out hb3)
      have P5 := Aside0.mk (qBs O5.out hb3)
      have hws3 := hb3.size
      clear hb3 HB HZ HO O4 O5
      obtain ⟨y0, y1, y2, y3, y4, y5⟩ := qAt HO3.out
      have hOf := fun k => qAa HO3.out k
      cases q2 with
      | true =>
        simp only [if_true, reduceIte] at hq
        go_wp2_with fail
        go_roundw
        case rel => exact ⟨i + 1, K, V, _, _, n4, n5, by go_num, by omega, hKV, by omega, HB3, by omega, HZ3, HO3, P4, P5, R4, R5, ⟨Option.map_eq_some_iff.2 ⟨q, hq, HR.out⟩⟩⟩
        case measure => simp [intOf]; omega
      | false =>
        simp only [Bool.false_eq_true, if_false, reduceIte] at hq
        by_cases hr : 0 ≤ q1 ∧ q1 ≤ (K.length : Int)
        · rw [if_pos hr] at hq
          obtain ⟨j, rfl⟩ : ∃ j : Nat, q1 = (j : Int) := ⟨q1.toNat, by omega⟩
          have hj : j ≤ K.length := by omega
          clear hr
          simp only [Int.toNat_natCast] at hq
          have HQ := Aside0.mk hq
          clear hq
          go_wp2_with fail
          have hl5 := own_lt P5.out
          refine (qFc (.slice a5 K.length b5) K.length j (w.heap.size + 2) w3.heap.size 9 n5 [.string key] _ (qBs P5.out (qAd (Below.refl w3.heap.size w3) _)) hj (qBe w3 _) rfl (fun e => by have := hl5 _ e.symm; omega) (by have := (qAd (Below.refl w3.heap.size w3) (.cells #[Value.string key] 9)).size; omega) (by omega) (qDx (d := Kd.string) (by decide) R5.out) (by intro u hu; rw [List.mem_singleton] at hu; subst hu; rfl)).mono ?_
          rintro e w4 ⟨s5', rfl, ho5, hg⟩
          obtain ⟨a5', b5', rfl⟩ := qB6 ho5
          have HB4 := Aside0.mk (below_grown' (qAd HB3.out (.cells #[Value.string key] 9)) hg (fun k hk => by have := qA6 P5.out k hk; omega))
          have hkeep : ∀ k, k < w3.heap.size → some k ≠ (Value.slice a5 K.length b5).ownBlock → w4.heap[k]? = w3.heap[k]? := fun k hk hne => (hg.block k (by have := (qAd (Below.refl w3.heap.size w3) (.cells #[Value.string key] 9)).size; omega) hne).trans ((qAd (Below.refl w3.heap.size w3) _).block k hk)
          have HZ4 := Aside0.mk ((hkeep w.heap.size (by omega) (fun e => by have := qA6 P5.out _ e.symm; omega)).trans HZ3.out)
          have HO4 := Aside0.mk ((hkeep (w.heap.size + 1) (by omega) (fun e => by have := qA6 P5.out _ e.symm; omega)).trans HO3.out)
          have Q4 := Aside0.mk (qBo P4.out (fun k hk => hkeep k (own_lt P4.out k hk) (fun e => qEp P4.out P5.out (by decide) k hk e.symm)))
          have Q5 := Aside0.mk ho5
          have hws4 := hg.size
          have hws3' := (qAd (Below.refl w3.heap.size w3) (.cells #[Value.string key] 9)).size
          clear hkeep hg ho5 HB3 HZ3 HO3 P4 P5 hl5 hOf y0 y1 y2 y3 y4 y5
          obtain ⟨y0, y1, y2, y3, y4, y5⟩ := qAt HO4.out
          have hOf := fun k => qAa HO4.out k
          go_wp2_with fail
          have HB5 := Aside0.mk (qAg (v := .slice a5' (K.length + 1) b5') (j := 5) HB4.out (show w.heap.size ≤ w.heap.size + 1 by omega))
          have HZ5 := Aside0.mk ((qA1 (w := w4) (g := w.heap.size + 1) (k := w.heap.size) (j := 5) (v := .slice a5' (K.length + 1) b5') (by omega)).trans HZ4.out)
          have HO5 := Aside0.mk (blk_set (j := 5) (v := .slice a5' (K.length + 1) b5') HO4.out)
          have T4 := Aside0.mk (qCb (g := w.heap.size + 1) (j := 5) (u := .slice a5' (K.length + 1) b5') Q4.out (by omega))
          have T5 := Aside0.mk (qCb (g := w.heap.size + 1) (j := 5) (u := .slice a5' (K.length + 1) b5') Q5.out (by omega))
          have HS5 := Aside0.mk (qD6 w4 ⟨w.heap.size + 1, 5, none⟩ (.slice a5' (K.length + 1) b5'))
          clear hOf y0 y1 y2 y3 y4 y5 HB4 HZ4 HO4 Q4 Q5
          generalize w4.setCell ⟨w.heap.size + 1, 5, none⟩ (.slice a5' (K.length + 1) b5') = W5 at *
          have HO5 := Aside0.mk (show W5.heap[w.heap.size + 1]? = some (.cells #[.int .i64 5, .bool false, .int .i64 0, .string ⟨#[]⟩, .slice a4 K.length b4, .slice a5' (K.length + 1) b5'] 25 (0, 0)) from HO5.out)
          obtain ⟨ad1, B4, e4, B5, e5, rfl, z0, z1, z2, z3, z4, z5, g4l, g4, g5l, g5⟩ := at_T25 X1.out (i : Int) (by omega) (by omega)
          have HY : rd_T25 l1 (i : Int) = l1[i] := by simp [rd_T25, List.getD_eq_getElem?_getD, show i < l1.length by omega]
          rw [HY] at z0 z1 z2 z3 z4 z5 g4l g4 g5l g5
          clear HY
          simp only [Int.toNat_natCast] at z0 z1 z2 z3 z4 z5
          generalize l1[i] = y at *
          have HKY := Aside0.mk (show k25.K w y [.int .i64 y.f0, .bool y.f1, .int .i64 y.f2, .string y.f3, .slice B4 y.f4.length e4, .slice B5 y.f5.length e5] from k25_mk w y g4l g4 g5l g5)
          clear g4l g4 g5l g5
          replace z0 := qAp HB5.out z0
          replace z1 := qAp HB5.out z1
          replace z2 := qAp HB5.out z2
          replace z3 := qAp HB5.out z3
          replace z4 := qAp HB5.out z4
          replace z5 := qAp HB5.out z5
          obtain ⟨y0, y1, y2, y3, y4, y5⟩ := qAt HO5.out
          have hOf := fun k => qAa HO5.out k
          clear y0 y1 y2 y3 y5
          have hsW := Aside0.mk hws4
          have y4a : ∀ o, (W5.alloc o).cell? ⟨w.heap.size + 1, 4, none⟩ = some (.slice a4 K.length b4) := fun o => (qAc (blk_alloc' HO5.out o) 4).trans rfl
          go_region_with (go_at_call 57; refine (qE9 (.slice a4 K.length b4) K.length j (w.heap.size + 2) W5.heap.size 25 n4 [.int .i64 y.f0, .bool y.f1, .int .i64 y.f2, .string y.f3, .slice B4 y.f4.length e4, .slice B5 y.f5.length e5] _ (qBs T4.out (by repeat (first | exact Below.refl _ _ | apply qAe | apply qAb | apply qAd))) hj (by first | exact qAk (qBe W5 _) (by repeat (first | exact Below.refl _ _ | apply qAe | apply qAb | apply qAd)) | (have := qBe (W5.drew) (.cells #[.int .i64 y.f0, .bool y.f1, .int .i64 y.f2, .string y.f3, .slice B4 y.f4.length e4, .slice B5 y.f5.length e5] 25); simpa using this)) rfl (fun e => by have := own_lt T4.out _ e.symm; omega) (by have hh := HS5.out; have hh2 := hsW.out; simp; omega) (by omega) (qDx (d := k25) (by decide) R4.out) (k25.K_one HKY.out)).mono ?_; rintro e w6 ⟨s4', rfl, ho6, hg6⟩; obtain ⟨a4', b4', rfl⟩ := qB6 ho6; have HG := Aside0.mk (qF3 (w0 := W5) (by repeat (first | exact Below.refl _ _ | apply qAe | apply qAb | apply qAd)) hg6); have Q4 := Aside0.mk ho6; clear hg6 ho6; have hs5' := HS5.out; have HB6 := Aside0.mk (below_grown' HB5.out HG.out (fun k hk => by have := qA6 T4.out k hk; omega)); have HZ6 := Aside0.mk ((HG.out.block w.heap.size (by omega) (fun e => by have := qA6 T4.out _ e.symm; omega)).trans HZ5.out); have HO6 := Aside0.mk ((HG.out.block (w.heap.size + 1) (by omega) (fun e => by have := qA6 T4.out _ e.symm; omega)).trans HO5.out); have Q5 := Aside0.mk (qBo T5.out (fun k hk => HG.out.block k (own_lt T5.out k hk) (fun e => qEp T4.out T5.out (by decide) k e.symm hk))); have hws6 := HG.out.size; obtain ⟨y0, y1, y2, y3, y4, y5⟩ := qAt HO6.out; have hOf := fun k => qAa HO6.out k)
          all_goals
            have HB7 := Aside0.mk (qAg (v := (.slice a4' (K.length + 1) b4')) (j := 4) HB6.out (show w.heap.size ≤ w.heap.size + 1 by omega))
            have HZ7 := Aside0.mk ((qA1 (w := w6) (g := w.heap.size + 1) (k := w.heap.size) (j := 4) (v := (.slice a4' (K.length + 1) b4')) (by omega)).trans HZ6.out)
            have HO7 := Aside0.mk (blk_set (j := 4) (v := (.slice a4' (K.length + 1) b4')) HO6.out)
            have U4 := Aside0.mk (qCb (g := w.heap.size + 1) (j := 4) (u := (.slice a4' (K.length + 1) b4')) Q4.out (by omega))
            have U5 := Aside0.mk (qCb (g := w.heap.size + 1) (j := 4) (u := (.slice a4' (K.length + 1) b4')) Q5.out (by omega))
            have hsz7 := qD6 w6 ⟨w.heap.size + 1, 4, none⟩ (.slice a4' (K.length + 1) b4')
            have hlk : (K.take j ++ key :: K.drop j).length = K.length + 1 := by simp; omega
            have hlv : (V.take j ++ y :: V.drop j).length = K.length + 1 := by have := hKV.out; simp; omega
            have N4 := Aside0.mk (qDb R4.out j (by have := hKV.out; omega) HKY.out rfl)
            have N5 := Aside0.mk (qDb (p := key) (c := [.string key]) R5.out j hj (by exact rfl) rfl)
            clear y0 y1 y2 y3 y4 y5 hOf y4a z0 z1 z2 z3 z4 z5 HB6 HZ6 HO6 Q4 Q5
            generalize w6.setCell ⟨w.heap.size + 1, 4, none⟩ (.slice a4' (K.length + 1) b4') = W7 at *
            go_wp2
            go_roundw
            case rel => exact ⟨i + 1, K.take j ++ key :: K.drop j, V.take j ++ y :: V.drop j, _, _, _, _, by go_num, by omega, ⟨by rw [hlk, hlv]⟩, by omega, HB7, by omega, HZ7, ⟨HO7.out⟩, by rw [hlk]; exact U4, by rw [hlk]; exact U5, N4, N5, ⟨Option.map_eq_some_iff.2 ⟨q, HQ.out, HR.out⟩⟩⟩
            case measure => simp [intOf]; omega
        · rw [if_neg hr] at hq
          cases hq
    · have him : i = m := by omega
      subst him
      have h := H.out
      clear H
      have hof : ofL k (l0.drop i) (l1.drop i) K V = some (K, V) := by
        rcases HM.out with e | e
        · rw [show l0.drop i = [] from List.drop_of_length_le (by omega)]; exact qHj _ _ _ _
        · rw [show l1.drop i = [] from List.drop_of_length_le (by omega)]; exact qHi _ _ _ _
      rw [hof, Option.map_some] at h
      replace h := Option.some.inj h
      unfold ofR at h
      have HSM := Aside0.mk (qBu 16 ⟨5, false, 0, ByteArray.empty, V, K⟩ 0 (by omega))
      have hm1 : value_May.f 5 false 0 ByteArray.empty V K = some (mayV 16 ⟨5, false, 0, ByteArray.empty, V, K⟩ 0).2 := rfl
      dsimp only at h
      generalize (mayV 16 ⟨5, false, 0, ByteArray.empty, V, K⟩ 0).2 = b1 at *
      have M1 := Aside0.mk hm1
      have HH := Aside0.mk h
      clear hm1 h hof
      have hcond : ¬ ((i : Int) < (i : Int)) := by omega
      have O4' := Aside0.mk (show wr.ownsRow (w.heap.size + 2) 25 6 s4 V.length n4 from by rw [hKV.out]; exact O4.out)
      obtain ⟨a5, b5, rfl, hC5⟩ := qBn O5.out (R5.out.imp_ (fun p c h => Kd.string.K_below HB.out h)) rfl
      obtain ⟨a4, b4, rfl, hC4⟩ := qBn O4'.out (R4.out.imp_ (fun p c h => k25.K_below HB.out h)) rfl
      have hcap5 := qE0 O5.out
      have hcap4 := qE0 O4'.out
      have HC4 : Aside0 (k25.C wr a4 V.length V) := ⟨hC4⟩
      have HC5 : Aside0 (Kd.string.C wr a5 K.length K) := ⟨hC5⟩
      clear hC4 hC5 O4 O4' O5 R4 R5
      obtain ⟨y0, y1, y2, y3, y4, y5⟩ := qAt HO.out
      go_wp2_with fail
      refine (value_May.calls 5 false 0 ByteArray.empty a4 b4 V a5 b5 K b1 wr HC4.out hcap4 HC5.out hcap5 M1.out).mono ?_
      rintro e w3 ⟨rfl, hb3⟩
      have HB3 := Aside0.mk (qAi HB.out hb3)
      have HZ3 := Aside0.mk (qAk HZ.out hb3)
      have HO3 := Aside0.mk (qAk HO.out hb3)
      have D4 := Aside0.mk (Kd.C_below HC4.out hb3)
      have D5 := Aside0.mk (Kd.C_below HC5.out hb3)
      clear hb3 y0 y1 y2 y3 y4 y5 HB HZ HO HC4 HC5 M1
      obtain ⟨y0, y1, y2, y3, y4, y5⟩ := qAt HO3.out
      obtain ⟨p0, p1, p2, p3, p4, p5⟩ := qAt HZ3.out
      have pf := fun k => qAa HZ3.out k
      cases b1 with
      | false =>
        have h := HH.out
        simp only [Bool.false_eq_true, if_false, reduceIte] at h
        cases h
        go_wp2_with fail
        have HF := Aside0.mk (qB9 (Value.int IntKind.i64 0) (Value.bool false) (Value.int IntKind.i64 0) (Value.string ⟨#[]⟩) (Value.slice none 0 0) (Value.slice none 0 0) HZ3.out)
        have HFB := Aside0.mk (qBi (g := w.heap.size) (Value.int IntKind.i64 0) (Value.bool false) (Value.int IntKind.i64 0) (Value.string ⟨#[]⟩) (Value.slice none 0 0) (Value.slice none 0 0) HB3.out (Nat.le_refl _) 0)
        have HFO := Aside0.mk (fun k (h : k ≠ w.heap.size) => qBx (w := w3) (g := w.heap.size) (k := k) (Value.int IntKind.i64 0) (Value.bool false) (Value.int IntKind.i64 0) (Value.string ⟨#[]⟩) (Value.slice none 0 0) (Value.slice none 0 0) 0 h)
        simp only [Nat.zero_add] at HFB HFO
        clear p0 p1 p2 p3 p4 p5 pf
        generalize (((((w3.setCell { block := w.heap.size, off := 0 } (Value.int IntKind.i64 0)).setCell { block := w.heap.size, off := 1 } (Value.bool false)).setCell { block := w.heap.size, off := 2 } (Value.int IntKind.i64 0)).setCell { block := w.heap.size, off := 3 } (Value.string ⟨#[]⟩)).setCell { block := w.heap.size, off := 4 } (Value.slice none 0 0)).setCell { block := w.heap.size, off := 5 } (Value.slice none 0 0) = WF at *
        obtain ⟨r0, r1, r2, r3, r4, r5⟩ := qAt HF.out
        refine bodyPost_ret (v := .agg #[(Value.int IntKind.i64 0), (Value.bool false), (Value.int IntKind.i64 0), (Value.string ⟨#[]⟩), (Value.slice none 0 0), (Value.slice none 0 0)]) (by simp [results, Tryd.results30, go_sem, r0, r1, r2, r3, r4, r5]) rfl ⟨_, _, rfl, Kd.R_nil _ _ _ _ _, Kd.R_nil _ _ _ _ _, HFB.out⟩
      | true =>
        have h := HH.out
        simp only [if_true, reduceIte] at h
        cases h
        have HSS := Aside0.mk (HSM.out rfl)
        clear HSM HH
        go_wp2_with fail
        have HOWN := qEo 16 ⟨5, false, 0, ⟨#[]⟩, r5, r6⟩ a4 b4 a5 b5 w3 HSS.out D4.out hcap4 D5.out hcap5
        dsimp only at HOWN
        refine HOWN.mono ?_
        clear HOWN
        rintro e w4 ⟨v4, v5, rfl, hv4, hv5, hb4⟩
        obtain ⟨s4, t4, rfl⟩ := Kd.R_slice hv4
        obtain ⟨s5, t5, rfl⟩ := Kd.R_slice hv5
        have HB4 := Aside0.mk (qAi HB3.out hb4)
        have HZ4 := Aside0.mk (qAk HZ3.out hb4)
        have V4 := Aside0.mk hv4
        have V5 := Aside0.mk hv5
        have hlt3 := blk_lt HZ3.out
        clear hb4 hv4 hv5 HZ3 HO3 y0 y1 y2 y3 y4 y5 p0 p1 p2 p3 p4 p5 pf D4 D5
        obtain ⟨p0, p1, p2, p3, p4, p5⟩ := qAt HZ4.out
        have pf := fun k => qAa HZ4.out k
        go_wp2_with fail
        have HF := Aside0.mk (qB9 (Value.int IntKind.i64 5) (Value.bool false) (Value.int IntKind.i64 0) (Value.string ⟨#[]⟩) (Value.slice s4 r5.length t4) (Value.slice s5 r6.length t5) HZ4.out)
        have HFB := Aside0.mk (qBi (g := w.heap.size) (Value.int IntKind.i64 5) (Value.bool false) (Value.int IntKind.i64 0) (Value.string ⟨#[]⟩) (Value.slice s4 r5.length t4) (Value.slice s5 r6.length t5) HB4.out (Nat.le_refl _) 0)
        have HFO := Aside0.mk (fun k (h : k ≠ w.heap.size) => qBx (w := w4) (g := w.heap.size) (k := k) (Value.int IntKind.i64 5) (Value.bool false) (Value.int IntKind.i64 0) (Value.string ⟨#[]⟩) (Value.slice s4 r5.length t4) (Value.slice s5 r6.length t5) 0 h)
        simp only [Nat.zero_add] at HFB HFO
        clear p0 p1 p2 p3 p4 p5 pf
        generalize (((((w4.setCell { block := w.heap.size, off := 0 } (Value.int IntKind.i64 5)).setCell { block := w.heap.size, off := 1 } (Value.bool false)).setCell { block := w.heap.size, off := 2 } (Value.int IntKind.i64 0)).setCell { block := w.heap.size, off := 3 } (Value.string ⟨#[]⟩)).setCell { block := w.heap.size, off := 4 } (Value.slice s4 r5.length t4)).setCell { block := w.heap.size, off := 5 } (Value.slice s5 r6.length t5) = WF at *
        obtain ⟨q0, q1, q2, q3, q4, q5⟩ := qAt HF.out
        have hbw := HB3.out.size
        refine bodyPost_ret (v := .agg #[(Value.int IntKind.i64 5), (Value.bool false), (Value.int IntKind.i64 0), (Value.string ⟨#[]⟩), (Value.slice s4 r5.length t4), (Value.slice s5 r6.length t5)]) (by simp [results, Tryd.results30, go_sem, q0, q1, q2, q3, q4, q5]) rfl ⟨_, _, rfl, (Kd.R_mono (Kd.R_move (Kd.R_lower (base' := w.heap.size) (Kd.R_mono (ok' := fun k => k ≠ w.heap.size ∧ some k ≠ (Value.slice s5 r6.length t5).ownBlock) (Kd.R_bound V4.out) (fun k hk => ⟨by have := hk.2.1; omega, hk.1⟩)) (by omega)) (fun k hk => HFO.out k hk.1)) (fun _ h_ => h_.2)), (Kd.R_mono (Kd.R_move (Kd.R_lower (base' := w.heap.size) (Kd.R_mono (ok' := fun k => k ≠ w.heap.size) (Kd.R_bound V5.out) (fun k hk => by have := hk.2.1; omega)) (by omega)) (fun k hk => HFO.out k hk)) (fun _ _ => trivial)), HFB.out⟩
end Go.Proofs.YtbnoihpooeombaaDoor.X

namespace Go.Proofs.YtbnoihpooeombaaDoor.P
open Go.Proofs.YtbnoihpooeombaaDoor.X
open Go.RowKit Go.Proofs.YtbnoihpooeombaaDoorW.PrintWords Go.Proofs.YtbnoihpooeombaaDoorW.PrintLast Go.Proofs.YtbnoihpooeombaaDoorW.PrintMore
attribute [local go_sem] qAr qAy
set_option linter.unusedVariables false
set_option linter.unusedSimpArgs false
def hogsheadlaw15_awake.f (k : Nat)  : Option (Bool) := (value_Of.f k (([(⟨#[98]⟩ : ByteArray), (⟨#[97]⟩ : ByteArray)] : List ByteArray)) (([(⟨2, false, 1, (⟨#[]⟩ : ByteArray), ([] : List (S25)), ([] : List ByteArray)⟩ : S25), (⟨1, true, 0, (⟨#[]⟩ : ByteArray), ([] : List (S25)), ([] : List ByteArray)⟩ : S25)] : List (S25)))).bind fun bt161 => ((value_Lay.f k bt161.1 bt161.2.1 bt161.2.2.1 bt161.2.2.2.1 bt161.2.2.2.2.1 bt161.2.2.2.2.2).bind fun bt172 => ((value_Get.f k bt161.1 bt161.2.1 bt161.2.2.1 bt161.2.2.2.1 bt161.2.2.2.2.1 bt161.2.2.2.2.2 (⟨#[98]⟩ : ByteArray)).bind fun bt174 => (if bt172.1.toList = ([123, 34, 97, 34, 58, 116, 114, 117, 101, 44, 34, 98, 34, 58, 49, 125] : List UInt8) then (if bt172.2 = 0 then (if bt174.2.2.1 = 1 then (if bt174.2.2.2.2.2.2 = true then ((value_May.f bt161.1 bt161.2.1 bt161.2.2.1 bt161.2.2.2.1 bt161.2.2.2.2.1 bt161.2.2.2.2.2).bind fun t186 => (if t186 = true then ((value_Same.f bt161.1 bt161.2.1 bt161.2.2.1 bt161.2.2.2.1 bt161.2.2.2.2.1 bt161.2.2.2.2.2 bt161.1 bt161.2.1 bt161.2.2.1 bt161.2.2.2.1 bt161.2.2.2.2.1 bt161.2.2.2.2.2).bind fun t187 => (some t187)) else (some false))) else (some false)) else (some false)) else (some false)) else (some false))))
theorem hogsheadlaw15_awake.mono : ∀ k, LeO (hogsheadlaw15_awake.f k ) (hogsheadlaw15_awake.f (k + 1) ) := by
 intro  k
 unfold hogsheadlaw15_awake.f
 repeat' first
   | (with_reducible exact value_Get.mono _ _ _ _ _ _ _ _)
   | (with_reducible exact value_Lay.mono _ _ _ _ _ _ _)
   | (with_reducible exact value_Of.mono _ _ _)
   | (with_reducible exact LeO.refl _)
   | (with_reducible exact LeO.none _)
   | (with_reducible refine LeO.ite ?_ ?_)
   | (with_reducible refine LeO.bind ?_ (fun _ => ?_))
   | exact value_Get.mono _ _ _ _ _ _ _ _
   | exact value_Lay.mono _ _ _ _ _ _ _
   | exact value_Of.mono _ _ _
   | exact LeO.none _
   | refine LeO.ite ?_ ?_
   | refine LeO.bind ?_ (fun _ => ?_)
set_option maxHeartbeats 8000000 in
set_option maxRecDepth 100000 in
theorem hogsheadlaw15_awake.calls_true (k : Nat)  (r : Bool) (w : World) (hT : Aside0 (Tabs w)) (h : hogsheadlaw15_awake.f k  = some r) (hr_ : Aside0 (r = true)) :
  Calls Tryd.prog 15 #[] w fun e w' => e = .returned (.bool r) ∧ Below w.heap.size w w' := by
 have hu25 := Tryd.underlying25
 have HB := Aside0.mk (Below.refl w.heap.size w)
 have H : ((value_Of.f k (([(⟨#[98]⟩ : ByteArray), (⟨#[97]⟩ : ByteArray)] : List ByteArray)) (([(⟨2, false, 1, (⟨#[]⟩ : ByteArray), ([] : List (S25)), ([] : List ByteArray)⟩ : S25), (⟨1, true, 0, (⟨#[]⟩ : ByteArray), ([] : List (S25)), ([] : List ByteArray)⟩ : S25)] : List (S25)))).bind fun bt161 => ((value_Lay.f k bt161.1 bt161.2.1 bt161.2.2.1 bt161.2.2.2.1 bt161.2.2.2.2.1 bt161.2.2.2.2.2).bind fun bt172 => ((value_Get.f k bt161.1 bt161.2.1 bt161.2.2.1 bt161.2.2.2.1 bt161.2.2.2.2.1 bt161.2.2.2.2.2 (⟨#[98]⟩ : ByteArray)).bind fun bt174 => (if bt172.1.toList = ([123, 34, 97, 34, 58, 116, 114, 117, 101, 44, 34, 98, 34, 58, 49, 125] : List UInt8) then (if bt172.2 = 0 then (if bt174.2.2.1 = 1 then (if bt174.2.2.2.2.2.2 = true then ((value_May.f bt161.1 bt161.2.1 bt161.2.2.1 bt161.2.2.2.1 bt161.2.2.2.2.1 bt161.2.2.2.2.2).bind fun t186 => (if t186 = true then ((value_Same.f bt161.1 bt161.2.1 bt161.2.2.1 bt161.2.2.2.1 bt161.2.2.2.2.1 bt161.2.2.2.2.2 bt161.1 bt161.2.1 bt161.2.2.1 bt161.2.2.2.1 bt161.2.2.2.2.1 bt161.2.2.2.2.2).bind fun t187 => (some t187)) else (some false))) else (some false)) else (some false)) else (some false)) else (some false))))) = some r := h
 clear h
 obtain ⟨y155, hy155⟩ : ∃ y_ : List ByteArray, y_ = (([(⟨#[98]⟩ : ByteArray), (⟨#[97]⟩ : ByteArray)] : List ByteArray)) := ⟨_, rfl⟩
 replace H : ((value_Of.f k y155 (([(⟨2, false, 1, (⟨#[]⟩ : ByteArray), ([] : List (S25)), ([] : List ByteArray)⟩ : S25), (⟨1, true, 0, (⟨#[]⟩ : ByteArray), ([] : List (S25)), ([] : List ByteArray)⟩ : S25)] : List (S25)))).bind fun bt161 => ((value_Lay.f k bt161.1 bt161.2.1 bt161.2.2.1 bt161.2.2.2.1 bt161.2.2.2.2.1 bt161.2.2.2.2.2).bind fun bt172 => ((value_Get.f k bt161.1 bt161.2.1 bt161.2.2.1 bt161.2.2.2.1 bt161.2.2.2.2.1 bt161.2.2.2.2.2 (⟨#[98]⟩ : ByteArray)).bind fun bt174 => (if bt172.1.toList = ([123, 34, 97, 34, 58, 116, 114, 117, 101, 44, 34, 98, 34, 58, 49, 125] : List UInt8) then (if bt172.2 = 0 then (if bt174.2.2.1 = 1 then (if bt174.2.2.2.2.2.2 = true then ((value_May.f bt161.1 bt161.2.1 bt161.2.2.1 bt161.2.2.2.1 bt161.2.2.2.2.1 bt161.2.2.2.2.2).bind fun t186 => (if t186 = true then ((value_Same.f bt161.1 bt161.2.1 bt161.2.2.1 bt161.2.2.2.1 bt161.2.2.2.2.1 bt161.2.2.2.2.2 bt161.1 bt161.2.1 bt161.2.2.1 bt161.2.2.2.1 bt161.2.2.2.2.1 bt161.2.2.2.2.2).bind fun t187 => (some t187)) else (some false))) else (some false)) else (some false)) else (some false)) else (some false))))) = some r := by first | (rw [hy155]; with_reducible exact H) | (have H2_ := (Option.bind_some _ _).symm.trans H; rw [hy155]; with_reducible exact H2_) | (have H2_ := (Option.bind_some _ _).symm.trans H; with_reducible exact H2_) | with_reducible exact H | (rw [hy155]; exact H) | exact H
 have Ny155 := Aside0.mk hy155
 clear hy155
 obtain ⟨y158, hy158⟩ : ∃ y_ : List (S25), y_ = (([(⟨2, false, 1, (⟨#[]⟩ : ByteArray), ([] : List (S25)), ([] : List ByteArray)⟩ : S25), (⟨1, true, 0, (⟨#[]⟩ : ByteArray), ([] : List (S25)), ([] : List ByteArray)⟩ : S25)] : List (S25))) := ⟨_, rfl⟩
 replace H : ((value_Of.f k y155 y158).bind fun bt161 => ((value_Lay.f k bt161.1 bt161.2.1 bt161.2.2.1 bt161.2.2.2.1 bt161.2.2.2.2.1 bt161.2.2.2.2.2).bind fun bt172 => ((value_Get.f k bt161.1 bt161.2.1 bt161.2.2.1 bt161.2.2.2.1 bt161.2.2.2.2.1 bt161.2.2.2.2.2 (⟨#[98]⟩ : ByteArray)).bind fun bt174 => (if bt172.1.toList = ([123, 34, 97, 34, 58, 116, 114, 117, 101, 44, 34, 98, 34, 58, 49, 125] : List UInt8) then (if bt172.2 = 0 then (if bt174.2.2.1 = 1 then (if bt174.2.2.2.2.2.2 = true then ((value_May.f bt161.1 bt161.2.1 bt161.2.2.1 bt161.2.2.2.1 bt161.2.2.2.2.1 bt161.2.2.2.2.2).bind fun t186 => (if t186 = true then ((value_Same.f bt161.1 bt161.2.1 bt161.2.2.1 bt161.2.2.2.1 bt161.2.2.2.2.1 bt161.2.2.2.2.2 bt161.1 bt161.2.1 bt161.2.2.1 bt161.2.2.2.1 bt161.2.2.2.2.1 bt161.2.2.2.2.2).bind fun t187 => (some t187)) else (some false))) else (some false)) else (some false)) else (some false)) else (some false))))) = some r := by first | (rw [hy158]; with_reducible exact H) | (have H2_ := (Option.bind_some _ _).symm.trans H; rw [hy158]; with_reducible exact H2_) | (have H2_ := (Option.bind_some _ _).symm.trans H; with_reducible exact H2_) | with_reducible exact H | (rw [hy158]; exact H) | exact H
 have Ny158 := Aside0.mk hy158
 clear hy158
 replace H := Option.bind_eq_some_iff.mp H
 obtain ⟨⟨t161, t162, t163, t164, t165, t168⟩, A10, H⟩ := H
 replace H : ((value_Lay.f k t161 t162 t163 t164 t165 t168).bind fun bt172 => ((value_Get.f k t161 t162 t163 t164 t165 t168 (⟨#[98]⟩ : ByteArray)).bind fun bt174 => (if bt172.1.toList = ([123, 34, 97, 34, 58, 116, 114, 117, 101, 44, 34, 98, 34, 58, 49, 125] : List UInt8) then (if bt172.2 = 0 then (if bt174.2.2.1 = 1 then (if bt174.2.2.2.2.2.2 = true then ((value_May.f t161 t162 t163 t164 t165 t168).bind fun t186 => (if t186 = true then ((value_Same.f t161 t162 t163 t164 t165 t168 t161 t162 t163 t164 t165 t168).bind fun t187 => (some t187)) else (some false))) else (some false)) else (some false)) else (some false)) else (some false)))) = some r := H
 have A1 := Aside0.mk A10
 clear A10
 replace H := Option.bind_eq_some_iff.mp H
 obtain ⟨⟨t172, t173⟩, A20, H⟩ := H
 replace H : ((value_Get.f k t161 t162 t163 t164 t165 t168 (⟨#[98]⟩ : ByteArray)).bind fun bt174 => (if t172.toList = ([123, 34, 97, 34, 58, 116, 114, 117, 101, 44, 34, 98, 34, 58, 49, 125] : List UInt8) then (if t173 = 0 then (if bt174.2.2.1 = 1 then (if bt174.2.2.2.2.2.2 = true then ((value_May.f t161 t162 t163 t164 t165 t168).bind fun t186 => (if t186 = true then ((value_Same.f t161 t162 t163 t164 t165 t168 t161 t162 t163 t164 t165 t168).bind fun t187 => (some t187)) else (some false))) else (some false)) else (some false)) else (some false)) else (some false))) = some r := H
 have A2 := Aside0.mk A20
 clear A20
 replace H := Option.bind_eq_some_iff.mp H
 obtain ⟨⟨t174, t175, t176, t177, t178, t181, t184⟩, A30, H⟩ := H
 replace H : (if t172.toList = ([123, 34, 97, 34, 58, 116, 114, 117, 101, 44, 34, 98, 34, 58, 49, 125] : List UInt8) then (if t173 = 0 then (if t176 = 1 then (if t184 = true then ((value_May.f t161 t162 t163 t164 t165 t168).bind fun t186 => (if t186 = true then ((value_Same.f t161 t162 t163 t164 t165 t168 t161 t162 t163 t164 t165 t168).bind fun t187 => (some t187)) else (some false))) else (some false)) else (some false)) else (some false)) else (some false)) = some r := H
 have A3 := Aside0.mk A30
 clear A30
 by_cases c4 : t172.toList = ([123, 34, 97, 34, 58, 116, 114, 117, 101, 44, 34, 98, 34, 58, 49, 125] : List UInt8)
 ·rw [if_pos c4] at H
  have c4b0 : (t172.toList == ([123, 34, 97, 34, 58, 116, 114, 117, 101, 44, 34, 98, 34, 58, 49, 125] : List UInt8)) = true := beq_iff_eq.mpr c4
  have c4b1 : (t172.toList != ([123, 34, 97, 34, 58, 116, 114, 117, 101, 44, 34, 98, 34, 58, 49, 125] : List UInt8)) = false := bne_eq_false_iff_eq.mpr c4
  clear c4
  by_cases c5 : t173 = 0
  ·rw [if_pos c5] at H
   have c5b0 : (t173 == 0) = true := beq_iff_eq.mpr c5
   have c5b1 : (t173 != 0) = false := bne_eq_false_iff_eq.mpr c5
   clear c5
   by_cases c6 : t176 = 1
   ·rw [if_pos c6] at H
    have c6b0 : (t176 == 1) = true := beq_iff_eq.mpr c6
    have c6b1 : (t176 != 1) = false := bne_eq_false_iff_eq.mpr c6
    clear c6
    by_cases c7 : t184 = true
    ·subst c7
     have H1 : ((value_May.f t161 t162 t163 t164 t165 t168).bind fun t186 => (if t186 = true then ((value_Same.f t161 t162 t163 t164 t165 t168 t161 t162 t163 t164 t165 t168).bind fun t187 => (some t187)) else (some false))) = some r := by rw [if_pos rfl] at H; exact H
     clear H
     have H := H1
     clear H1
     replace H := Option.bind_eq_some_iff.mp H
     obtain ⟨t186, A80, H⟩ := H
     replace H : (if t186 = true then ((value_Same.f t161 t162 t163 t164 t165 t168 t161 t162 t163 t164 t165 t168).bind fun t187 => (some t187)) else (some false)) = some r := H
     have A8 := Aside0.mk A80
     clear A80
     by_cases c9 : t186 = true
     ·subst c9
      have H1 : ((value_Same.f t161 t162 t163 t164 t165 t168 t161 t162 t163 t164 t165 t168).bind fun t187 => (some t187)) = some r := by rw [if_pos rfl] at H; exact H
      clear H
      have H := H1
      clear H1
      replace H := Option.bind_eq_some_iff.mp H
      obtain ⟨t187, A100, H⟩ := H
      replace H : (some t187) = some r := H
      have A10 := Aside0.mk A100
      clear A100
      obtain rfl := Option.some.inj H
      go_enter Tryd.func15, Tryd.ntmps15
      go_wp2_with (first | ((with_reducible refine qA0 (N := 6) rfl ?_); refine Kd.R_lit Kd.string _ 9 ?hg (N := 6) ?hd (xs := ([(⟨#[98]⟩ : ByteArray), (⟨#[97]⟩ : ByteArray)] : List ByteArray)) (inner := [.string (⟨#[98]⟩ : ByteArray), .string (⟨#[97]⟩ : ByteArray)]) (ok := fun _ => True) (okp := fun _ => True) ?hr ?hp (fun _ hk => hk) trivial (Below.refl _ _) (Nat.le_refl _) (by simp) ?_; (case hd => rfl); (case hg => rfl); (case hr => first | (go_simp; done) | (go_simp; rfl)); (case hp => exact (Reps.one (show Kd.M Kd.string _ _ _ (⟨#[98]⟩ : ByteArray) [.string (⟨#[98]⟩ : ByteArray)] from rfl) (Reps.one (show Kd.M Kd.string _ _ _ (⟨#[97]⟩ : ByteArray) [.string (⟨#[97]⟩ : ByteArray)] from rfl) (Reps.none _ _)))); intro v156 w11 ho12 hb hg_ hnew_; clear hg_ hnew_; (first | rw [← Ny155.out] at ho12 | (simp only [Int.reduceToNat] at ho12; rw [← Ny155.out] at ho12)); have n0_ := Aside0.mk (Kd.R_lower ho12 (qAj (by repeat (first | (with_reducible first | exact HB.out | apply qAd | apply qAb | apply qAe) | exact HB.out)))); have n1_ := Aside0.mk (qAi (by repeat (first | (with_reducible first | exact HB.out | apply qAd | apply qAb | apply qAe) | exact HB.out)) hb); clear HB; have HO157 := n0_; have HB := n1_; clear n0_ n1_; clear hb ho12) | ((with_reducible refine qA0 (N := 9) rfl ?_); refine Kd.R_lit k25 _ 25 ?hg (N := 9) ?hd (xs := ([(⟨2, false, 1, (⟨#[]⟩ : ByteArray), ([] : List (S25)), ([] : List ByteArray)⟩ : S25), (⟨1, true, 0, (⟨#[]⟩ : ByteArray), ([] : List (S25)), ([] : List ByteArray)⟩ : S25)] : List (S25))) (inner := [.int .i64 2, .bool false, .int .i64 1, .string (⟨#[]⟩ : ByteArray), .slice none 0 0, .slice none 0 0, .int .i64 1, .bool true, .int .i64 0, .string (⟨#[]⟩ : ByteArray), .slice none 0 0, .slice none 0 0]) (ok := fun _ => True) (okp := fun _ => True) ?hr ?hp (fun _ hk => hk) trivial (Below.refl _ _) (Nat.le_refl _) (by simp) ?_; (case hd => rfl); (case hg => rfl); (case hr => first | (go_simp; done) | (go_simp; rfl)); (case hp => exact (Reps.c6 (show Kd.M k25 _ _ _ (⟨2, false, 1, (⟨#[]⟩ : ByteArray), ([] : List (S25)), ([] : List ByteArray)⟩ : S25) [.int .i64 2, .bool false, .int .i64 1, .string (⟨#[]⟩ : ByteArray), .slice none 0 0, .slice none 0 0] from (qE5 _ _ _ (⟨2, false, 1, (⟨#[]⟩ : ByteArray), ([] : List (S25)), ([] : List ByteArray)⟩ : S25) (Kd.R_nil _ _ _ _ _) (Kd.R_nil _ _ _ _ _))) (Reps.c6 (show Kd.M k25 _ _ _ (⟨1, true, 0, (⟨#[]⟩ : ByteArray), ([] : List (S25)), ([] : List ByteArray)⟩ : S25) [.int .i64 1, .bool true, .int .i64 0, .string (⟨#[]⟩ : ByteArray), .slice none 0 0, .slice none 0 0] from (qE5 _ _ _ (⟨1, true, 0, (⟨#[]⟩ : ByteArray), ([] : List (S25)), ([] : List ByteArray)⟩ : S25) (Kd.R_nil _ _ _ _ _) (Kd.R_nil _ _ _ _ _))) (Reps.none _ _)))); intro v159 w13 ho14 hb hg_ hnew_; clear hg_ hnew_; (first | rw [← Ny158.out] at ho14 | (simp only [Int.reduceToNat] at ho14; rw [← Ny158.out] at ho14)); have n0_ := Aside0.mk (Kd.R_below (by (with_reducible repeat (first | apply Kd.R_alloc | apply Kd.R_drewN | apply Kd.R_drew)); exact HO157.out) hb); have n1_ := Aside0.mk (Kd.R_lower (Kd.R_new' ho14 (Kd.R_lt (by (with_reducible repeat (first | apply Kd.R_alloc | apply Kd.R_drewN | apply Kd.R_drew)); exact HO157.out))) (qAj (by repeat (first | (with_reducible first | exact HB.out | apply qAd | apply qAb | apply qAe) | exact HB.out)))); have n2_ := Aside0.mk (qAi (by repeat (first | (with_reducible first | exact HB.out | apply qAd | apply qAb | apply qAe) | exact HB.out)) hb); clear HO157; clear HB; have HO157 := n0_; have HO160 := n1_; have HB := n2_; clear n0_ n1_ n2_; clear hb ho14; obtain ⟨Ao15, co15, eo15⟩ := Kd.R_slice HO157.out; subst eo15; obtain ⟨Ao16, co16, eo16⟩ := Kd.R_slice HO160.out; subst eo16) | ((with_reducible refine qAn (f := 30) rfl ?_); refine goesL_ (some 10) rfl rfl Tryd.func30 (by kernel_rfl) rfl #[.slice Ao15 y155.length co15, .slice Ao16 y158.length co16] rfl (by (try simp only [List.map_toArray, List.map_cons, List.map_nil]); first | done | rfl | (simp only [List.length_drop, List.length_take]; rfl)) ?_; (with_reducible refine (value_Of.calls k _ _ y155 _ _ y158 t161 t162 t163 t164 t165 t168 _ ?side1 ?side2 ?side3 ?side4 A1.out).mono ?_); (case side1 => repeat (first | exact (Kd.R_reads' HO157.out).2.2 | (with_reducible refine Kd.C_alloc ?_ _) | (with_reducible refine Kd.C_drewN ?_ _) | (with_reducible refine Kd.C_drew ?_))); (case side2 => exact (Kd.R_reads' HO157.out).2.1); (case side3 => repeat (first | exact (Kd.R_reads' HO160.out).2.2 | (with_reducible refine Kd.C_alloc ?_ _) | (with_reducible refine Kd.C_drewN ?_ _) | (with_reducible refine Kd.C_drew ?_))); (case side4 => exact (Kd.R_reads' HO160.out).2.1); rintro e w17 ⟨v166, v169, rfl, ho0, ho1, hb⟩; refine ⟨_, rfl, ?_⟩; have n0_ := Aside0.mk (Kd.R_elder' (by (with_reducible repeat (first | apply Kd.R_alloc | apply Kd.R_drewN | apply Kd.R_drew)); exact HO157.out) (Kd.R_base ho1) hb); have n1_ := Aside0.mk (Kd.R_mono (Kd.R_told (Kd.R_told (Kd.R_old (by (with_reducible repeat (first | apply Kd.R_alloc | apply Kd.R_drewN | apply Kd.R_drew)); exact HO160.out) hb) (Kd.R_base ho0)) (Kd.R_base ho1)) (fun _ h_ => h_.1)); have n2_ := Aside0.mk (Kd.R_lower (Kd.R_new' (Kd.R_new' ho0 (Kd.R_lt (by (with_reducible repeat (first | apply Kd.R_alloc | apply Kd.R_drewN | apply Kd.R_drew)); exact HO157.out))) (Kd.R_lt (by (with_reducible repeat (first | apply Kd.R_alloc | apply Kd.R_drewN | apply Kd.R_drew)); exact HO160.out))) (qAj (by repeat (first | (with_reducible first | exact HB.out | apply qAd | apply qAb | apply qAe) | exact HB.out)))); have n3_ := Aside0.mk (Kd.R_lower (Kd.R_new' ho1 (Kd.R_lt (by (with_reducible repeat (first | apply Kd.R_alloc | apply Kd.R_drewN | apply Kd.R_drew)); exact HO157.out))) (qAj (by repeat (first | (with_reducible first | exact HB.out | apply qAd | apply qAb | apply qAe) | exact HB.out)))); have n4_ := Aside0.mk (qAi (by repeat (first | (with_reducible first | exact HB.out | apply qAd | apply qAb | apply qAe) | exact HB.out)) hb); clear HO157; clear HO160; clear HB; have HO157 := n0_; have HO160 := n1_; have HO167 := n2_; have HO170 := n3_; have HB := n4_; clear n0_ n1_ n2_ n3_ n4_; (try clear hb); (try clear hb2); (try clear hk); (try clear hi); (try clear ho0); (try clear ho1)) | ((with_reducible refine qA0 (N := 1) rfl ?_); refine qAz ?hg (N := 1) ?hd (cs := #[.int .i64 0, .bool false, .int .i64 0, .string (⟨#[]⟩ : ByteArray), .slice none 0 0, .slice none 0 0]) (t := 25) ?hr ?_; (case hd => rfl); (case hg => rfl); (case hr => first | (go_simp; done) | (go_simp; rfl)); intro gb171 hg w18 hbox hb; have n0_ := Aside0.mk (Kd.R_below (by (with_reducible repeat (first | apply Kd.R_alloc | apply Kd.R_drewN | apply Kd.R_drew)); exact HO157.out) hb); have n1_ := Aside0.mk (Kd.R_below (Kd.R_elderB (by (with_reducible repeat (first | apply Kd.R_alloc | apply Kd.R_drewN | apply Kd.R_drew)); exact HO160.out) gb171 (Nat.le_of_eq hg.symm)) hb); have n2_ := Aside0.mk (Kd.R_below (Kd.R_elderB (by (with_reducible repeat (first | apply Kd.R_alloc | apply Kd.R_drewN | apply Kd.R_drew)); exact HO167.out) gb171 (Nat.le_of_eq hg.symm)) hb); have n3_ := Aside0.mk (Kd.R_below (by (with_reducible repeat (first | apply Kd.R_alloc | apply Kd.R_drewN | apply Kd.R_drew)); exact HO170.out) hb); have n4_ := Aside0.mk (qAi (by repeat (first | (with_reducible first | exact HB.out | apply qAd | apply qAb | apply qAe) | exact HB.out)) hb); have n5_ := Aside0.mk (hbox); have n6_ := Aside0.mk ((by rw [hg]; exact (qAj (by repeat (first | (with_reducible first | exact HB.out | apply qAd | apply qAb | apply qAe) | exact HB.out))) : w.heap.size ≤ gb171)); have n7_ := Aside0.mk ((by rw [hg]; exact (qAj (by repeat (first | (with_reducible first | exact HB.out | apply qAd | apply qAb | apply qAe) | exact HB.out))) : w.heap.size ≤ gb171)); clear HO157; clear HO160; clear HO167; clear HO170; clear HB; have HO157 := n0_; have HO160 := n1_; have HO167 := n2_; have HO170 := n3_; have HB := n4_; have BK171 := n5_; have GW171 := n6_; have GE171 := n7_; clear n0_ n1_ n2_ n3_ n4_ n5_ n6_ n7_; clear hb hbox hg; have hcz19_0 : w18.cell? ⟨gb171, 0, none⟩ = some (.int .i64 0) := (qAc BK171.out 0).trans rfl; have hcz19_1 : w18.cell? ⟨gb171, 1, none⟩ = some (.bool false) := (qAc BK171.out 1).trans rfl; have hcz19_2 : w18.cell? ⟨gb171, 2, none⟩ = some (.int .i64 0) := (qAc BK171.out 2).trans rfl; have hcz19_3 : w18.cell? ⟨gb171, 3, none⟩ = some (.string (⟨#[]⟩ : ByteArray)) := (qAc BK171.out 3).trans rfl; have hcz19_4 : w18.cell? ⟨gb171, 4, none⟩ = some (.slice none 0 0) := (qAc BK171.out 4).trans rfl; have hcz19_5 : w18.cell? ⟨gb171, 5, none⟩ = some (.slice none 0 0) := (qAc BK171.out 5).trans rfl; have hfz19_0 := qAa BK171.out 0; have hfz19_1 := qAa BK171.out 1; have hfz19_2 := qAa BK171.out 2; have hfz19_3 := qAa BK171.out 3; have hfz19_4 := qAa BK171.out 4; have hfz19_5 := qAa BK171.out 5; obtain ⟨Ao20, co20, eo20⟩ := Kd.R_slice HO167.out; subst eo20; obtain ⟨Ao21, co21, eo21⟩ := Kd.R_slice HO170.out; subst eo21) | ((with_reducible refine qAn (f := 16) rfl ?_); refine goesL_ (some 13) rfl rfl Tryd.func16 (by kernel_rfl) rfl #[.agg #[.int .i64 t161, .bool t162, .int .i64 t163, .string t164, .slice Ao20 t165.length co20, .slice Ao21 t168.length co21]] rfl (by (try simp only [List.map_toArray, List.map_cons, List.map_nil]); first | done | rfl | (simp only [List.length_drop, List.length_take]; rfl)) ?_; (with_reducible refine (value_Lay.calls k t161 t162 t163 t164 _ _ t165 _ _ t168 t172 t173 _ ?side1 ?side2 ?side3 ?side4 ?side5 A2.out).mono ?_); (case side1 => exact ⟨Tabs.below hT.out (by repeat (first | (with_reducible first | exact HB.out | apply qAd | apply qAb | apply qAe | refine qAg ?_ GE171.out) | exact HB.out))⟩); (case side2 => refine (Kd.R_reads' (e := 25) (base := w.heap.size) (ok := fun k_ => (((some k_ ≠ (.slice Ao21 t168.length co21 : Value).ownBlock ∧ some k_ ≠ (.slice Ao15 y155.length co15 : Value).ownBlock) ∧ some k_ ≠ (.slice Ao16 y158.length co16 : Value).ownBlock) ∧ k_ ≠ gb171)) (n := t165.length) (c := co20) ?_).2.2; exact (by (with_reducible repeat (first | apply Kd.R_alloc | apply Kd.R_drewN | apply Kd.R_drew)); exact (Kd.R_mono (Kd.R_far (p := ⟨gb171, 5, none⟩) (Kd.R_far (p := ⟨gb171, 4, none⟩) (Kd.R_far (p := ⟨gb171, 3, none⟩) (Kd.R_far (p := ⟨gb171, 2, none⟩) (Kd.R_far (p := ⟨gb171, 1, none⟩) (Kd.R_far (p := ⟨gb171, 0, none⟩) (Kd.R_mono HO167.out (fun k_ hk => (⟨hk, hk.2⟩ : _ ∧ k_ ≠ gb171))) (fun _ hk => hk.2) (.int .i64 t161)) (fun _ hk => hk.2) (.bool t162)) (fun _ hk => hk.2) (.int .i64 t163)) (fun _ hk => hk.2) (.string t164)) (fun _ hk => hk.2) (.slice Ao20 t165.length co20)) (fun _ hk => hk.2) (.slice Ao21 t168.length co21)) (fun _ h_ => h_.1)))); (case side3 => exact (Kd.R_reads' HO167.out).2.1); (case side4 => refine (Kd.R_reads' (e := 9) (base := w.heap.size) (ok := fun k_ => (True ∧ some k_ ≠ (.slice Ao15 y155.length co15 : Value).ownBlock)) (n := t168.length) (c := co21) ?_).2.2; exact (by (with_reducible repeat (first | apply Kd.R_alloc | apply Kd.R_drewN | apply Kd.R_drew)); exact (Kd.R_mono (Kd.R_far (p := ⟨gb171, 5, none⟩) (Kd.R_far (p := ⟨gb171, 4, none⟩) (Kd.R_far (p := ⟨gb171, 3, none⟩) (Kd.R_far (p := ⟨gb171, 2, none⟩) (Kd.R_far (p := ⟨gb171, 1, none⟩) (Kd.R_far (p := ⟨gb171, 0, none⟩) (Kd.R_types HO170.out BK171.out (by decide)) (fun _ hk => hk.2) (.int .i64 t161)) (fun _ hk => hk.2) (.bool t162)) (fun _ hk => hk.2) (.int .i64 t163)) (fun _ hk => hk.2) (.string t164)) (fun _ hk => hk.2) (.slice Ao20 t165.length co20)) (fun _ hk => hk.2) (.slice Ao21 t168.length co21)) (fun _ h_ => h_.1)))); (case side5 => exact (Kd.R_reads' HO170.out).2.1); rintro e w22 ⟨rfl, hb⟩; refine ⟨_, rfl, ?_⟩; have n0_ := Aside0.mk (Kd.R_below (by (with_reducible repeat (first | apply Kd.R_alloc | apply Kd.R_drewN | apply Kd.R_drew)); exact (Kd.R_mono (Kd.R_far (p := ⟨gb171, 5, none⟩) (Kd.R_far (p := ⟨gb171, 4, none⟩) (Kd.R_far (p := ⟨gb171, 3, none⟩) (Kd.R_far (p := ⟨gb171, 2, none⟩) (Kd.R_far (p := ⟨gb171, 1, none⟩) (Kd.R_far (p := ⟨gb171, 0, none⟩) (Kd.R_types HO157.out BK171.out (by decide)) (fun _ hk => hk.2) (.int .i64 t161)) (fun _ hk => hk.2) (.bool t162)) (fun _ hk => hk.2) (.int .i64 t163)) (fun _ hk => hk.2) (.string t164)) (fun _ hk => hk.2) (.slice Ao20 t165.length co20)) (fun _ hk => hk.2) (.slice Ao21 t168.length co21)) (fun _ h_ => h_.1))) hb); have n1_ := Aside0.mk (Kd.R_below (by (with_reducible repeat (first | apply Kd.R_alloc | apply Kd.R_drewN | apply Kd.R_drew)); exact (Kd.R_mono (Kd.R_far (p := ⟨gb171, 5, none⟩) (Kd.R_far (p := ⟨gb171, 4, none⟩) (Kd.R_far (p := ⟨gb171, 3, none⟩) (Kd.R_far (p := ⟨gb171, 2, none⟩) (Kd.R_far (p := ⟨gb171, 1, none⟩) (Kd.R_far (p := ⟨gb171, 0, none⟩) (Kd.R_mono HO160.out (fun k_ hk => (⟨hk, hk.2⟩ : _ ∧ k_ ≠ gb171))) (fun _ hk => hk.2) (.int .i64 t161)) (fun _ hk => hk.2) (.bool t162)) (fun _ hk => hk.2) (.int .i64 t163)) (fun _ hk => hk.2) (.string t164)) (fun _ hk => hk.2) (.slice Ao20 t165.length co20)) (fun _ hk => hk.2) (.slice Ao21 t168.length co21)) (fun _ h_ => h_.1))) hb); have n2_ := Aside0.mk (Kd.R_below (by (with_reducible repeat (first | apply Kd.R_alloc | apply Kd.R_drewN | apply Kd.R_drew)); exact (Kd.R_mono (Kd.R_far (p := ⟨gb171, 5, none⟩) (Kd.R_far (p := ⟨gb171, 4, none⟩) (Kd.R_far (p := ⟨gb171, 3, none⟩) (Kd.R_far (p := ⟨gb171, 2, none⟩) (Kd.R_far (p := ⟨gb171, 1, none⟩) (Kd.R_far (p := ⟨gb171, 0, none⟩) (Kd.R_mono HO167.out (fun k_ hk => (⟨hk, hk.2⟩ : _ ∧ k_ ≠ gb171))) (fun _ hk => hk.2) (.int .i64 t161)) (fun _ hk => hk.2) (.bool t162)) (fun _ hk => hk.2) (.int .i64 t163)) (fun _ hk => hk.2) (.string t164)) (fun _ hk => hk.2) (.slice Ao20 t165.length co20)) (fun _ hk => hk.2) (.slice Ao21 t168.length co21)) (fun _ h_ => h_.1))) hb); have n3_ := Aside0.mk (Kd.R_below (by (with_reducible repeat (first | apply Kd.R_alloc | apply Kd.R_drewN | apply Kd.R_drew)); exact (Kd.R_mono (Kd.R_far (p := ⟨gb171, 5, none⟩) (Kd.R_far (p := ⟨gb171, 4, none⟩) (Kd.R_far (p := ⟨gb171, 3, none⟩) (Kd.R_far (p := ⟨gb171, 2, none⟩) (Kd.R_far (p := ⟨gb171, 1, none⟩) (Kd.R_far (p := ⟨gb171, 0, none⟩) (Kd.R_types HO170.out BK171.out (by decide)) (fun _ hk => hk.2) (.int .i64 t161)) (fun _ hk => hk.2) (.bool t162)) (fun _ hk => hk.2) (.int .i64 t163)) (fun _ hk => hk.2) (.string t164)) (fun _ hk => hk.2) (.slice Ao20 t165.length co20)) (fun _ hk => hk.2) (.slice Ao21 t168.length co21)) (fun _ h_ => h_.1))) hb); have n4_ := Aside0.mk (qAk (g := gb171) (o := .cells #[.int .i64 t161, .bool t162, .int .i64 t163, .string t164, .slice Ao20 t165.length co20, .slice Ao21 t168.length co21] 25 (0, 0)) (by (with_reducible repeat (first | refine qAf ?_ _ | refine qAh ?_ | refine blk_alloc ?_ _)); refine qAo (cs := #[.int .i64 t161, .bool t162, .int .i64 t163, .string t164, .slice Ao20 t165.length co20, .slice none 0 0]) ?_ 5 _ rfl; (with_reducible repeat (first | refine qAf ?_ _ | refine qAh ?_ | refine blk_alloc ?_ _)); refine qAo (cs := #[.int .i64 t161, .bool t162, .int .i64 t163, .string t164, .slice none 0 0, .slice none 0 0]) ?_ 4 _ rfl; (with_reducible repeat (first | refine qAf ?_ _ | refine qAh ?_ | refine blk_alloc ?_ _)); refine qAo (cs := #[.int .i64 t161, .bool t162, .int .i64 t163, .string (⟨#[]⟩ : ByteArray), .slice none 0 0, .slice none 0 0]) ?_ 3 _ rfl; (with_reducible repeat (first | refine qAf ?_ _ | refine qAh ?_ | refine blk_alloc ?_ _)); refine qAo (cs := #[.int .i64 t161, .bool t162, .int .i64 0, .string (⟨#[]⟩ : ByteArray), .slice none 0 0, .slice none 0 0]) ?_ 2 _ rfl; (with_reducible repeat (first | refine qAf ?_ _ | refine qAh ?_ | refine blk_alloc ?_ _)); refine qAo (cs := #[.int .i64 t161, .bool false, .int .i64 0, .string (⟨#[]⟩ : ByteArray), .slice none 0 0, .slice none 0 0]) ?_ 1 _ rfl; (with_reducible repeat (first | refine qAf ?_ _ | refine qAh ?_ | refine blk_alloc ?_ _)); refine qAo (cs := #[.int .i64 0, .bool false, .int .i64 0, .string (⟨#[]⟩ : ByteArray), .slice none 0 0, .slice none 0 0]) ?_ 0 _ rfl; (with_reducible repeat (first | refine qAf ?_ _ | refine qAh ?_ | refine blk_alloc ?_ _)); exact BK171.out) hb); have n5_ := Aside0.mk (qAi (by repeat (first | (with_reducible first | exact HB.out | apply qAd | apply qAb | apply qAe | refine qAg ?_ GE171.out) | exact HB.out)) hb); clear HO157; clear HO160; clear HO167; clear HO170; clear BK171; clear HB; have HO157 := n0_; have HO160 := n1_; have HO167 := n2_; have HO170 := n3_; have BK171 := n4_; have HB := n5_; clear n0_ n1_ n2_ n3_ n4_ n5_; (try clear hb); (try clear hb2); (try clear hk); (try clear hi); have hcz23_0 : w22.cell? ⟨gb171, 0, none⟩ = some (.int .i64 t161) := (qAc BK171.out 0).trans rfl; have hcz23_1 : w22.cell? ⟨gb171, 1, none⟩ = some (.bool t162) := (qAc BK171.out 1).trans rfl; have hcz23_2 : w22.cell? ⟨gb171, 2, none⟩ = some (.int .i64 t163) := (qAc BK171.out 2).trans rfl; have hcz23_3 : w22.cell? ⟨gb171, 3, none⟩ = some (.string t164) := (qAc BK171.out 3).trans rfl; have hcz23_4 : w22.cell? ⟨gb171, 4, none⟩ = some (.slice Ao20 t165.length co20) := (qAc BK171.out 4).trans rfl; have hcz23_5 : w22.cell? ⟨gb171, 5, none⟩ = some (.slice Ao21 t168.length co21) := (qAc BK171.out 5).trans rfl; have hfz23_0 := qAa BK171.out 0; have hfz23_1 := qAa BK171.out 1; have hfz23_2 := qAa BK171.out 2; have hfz23_3 := qAa BK171.out 3; have hfz23_4 := qAa BK171.out 4; have hfz23_5 := qAa BK171.out 5) | ((with_reducible refine qAn (f := 18) rfl ?_); refine goesL_ (some 18) rfl rfl Tryd.func18 (by kernel_rfl) rfl #[.agg #[.int .i64 t161, .bool t162, .int .i64 t163, .string t164, .slice Ao20 t165.length co20, .slice Ao21 t168.length co21], .string (⟨#[98]⟩ : ByteArray)] rfl (by (try simp only [List.map_toArray, List.map_cons, List.map_nil]); first | done | rfl | (simp only [List.length_drop, List.length_take]; rfl)) ?_; (with_reducible refine (value_Get.calls k t161 t162 t163 t164 _ _ t165 _ _ t168 (⟨#[98]⟩ : ByteArray) t174 t175 t176 t177 t178 t181 true _ ?side1 ?side2 ?side3 ?side4 A3.out).mono ?_); (case side1 => repeat (first | exact (Kd.R_reads' HO167.out).2.2 | (with_reducible refine Kd.C_alloc ?_ _) | (with_reducible refine Kd.C_drewN ?_ _) | (with_reducible refine Kd.C_drew ?_))); (case side2 => exact (Kd.R_reads' HO167.out).2.1); (case side3 => repeat (first | exact (Kd.R_reads' HO170.out).2.2 | (with_reducible refine Kd.C_alloc ?_ _) | (with_reducible refine Kd.C_drewN ?_ _) | (with_reducible refine Kd.C_drew ?_))); (case side4 => exact (Kd.R_reads' HO170.out).2.1); rintro e w24 ⟨v179, v182, rfl, ho0, ho1, hb⟩; refine ⟨_, rfl, ?_⟩; have n0_ := Aside0.mk (Kd.R_elder' (by (with_reducible repeat (first | apply Kd.R_alloc | apply Kd.R_drewN | apply Kd.R_drew)); exact HO157.out) (Kd.R_base ho1) hb); have n1_ := Aside0.mk (Kd.R_mono (Kd.R_told (Kd.R_told (Kd.R_old (by (with_reducible repeat (first | apply Kd.R_alloc | apply Kd.R_drewN | apply Kd.R_drew)); exact HO160.out) hb) (Kd.R_base ho0)) (Kd.R_base ho1)) (fun _ h_ => h_.1)); have n2_ := Aside0.mk (Kd.R_mono (Kd.R_told (Kd.R_told (Kd.R_old (by (with_reducible repeat (first | apply Kd.R_alloc | apply Kd.R_drewN | apply Kd.R_drew)); exact HO167.out) hb) (Kd.R_base ho0)) (Kd.R_base ho1)) (fun _ h_ => h_.1)); have n3_ := Aside0.mk (Kd.R_elder' (by (with_reducible repeat (first | apply Kd.R_alloc | apply Kd.R_drewN | apply Kd.R_drew)); exact HO170.out) (Kd.R_base ho1) hb); have n4_ := Aside0.mk (Kd.R_lower (Kd.R_newB (Kd.R_new' (Kd.R_new' (Kd.R_new' (Kd.R_new' ho0 (Kd.R_lt (by (with_reducible repeat (first | apply Kd.R_alloc | apply Kd.R_drewN | apply Kd.R_drew)); exact HO157.out))) (Kd.R_lt (by (with_reducible repeat (first | apply Kd.R_alloc | apply Kd.R_drewN | apply Kd.R_drew)); exact HO160.out))) (Kd.R_lt (by (with_reducible repeat (first | apply Kd.R_alloc | apply Kd.R_drewN | apply Kd.R_drew)); exact HO167.out))) (Kd.R_lt (by (with_reducible repeat (first | apply Kd.R_alloc | apply Kd.R_drewN | apply Kd.R_drew)); exact HO170.out))) (g := gb171) (o := .cells #[.int .i64 t161, .bool t162, .int .i64 t163, .string t164, .slice Ao20 t165.length co20, .slice Ao21 t168.length co21] 25 (0, 0)) (by (with_reducible repeat (first | refine qAf ?_ _ | refine qAh ?_ | refine blk_alloc ?_ _)); exact BK171.out)) (qAj (by repeat (first | (with_reducible first | exact HB.out | apply qAd | apply qAb | apply qAe | refine qAg ?_ GE171.out) | exact HB.out)))); have n5_ := Aside0.mk (Kd.R_lower (Kd.R_new' (Kd.R_new' ho1 (Kd.R_lt (by (with_reducible repeat (first | apply Kd.R_alloc | apply Kd.R_drewN | apply Kd.R_drew)); exact HO157.out))) (Kd.R_lt (by (with_reducible repeat (first | apply Kd.R_alloc | apply Kd.R_drewN | apply Kd.R_drew)); exact HO170.out))) (qAj (by repeat (first | (with_reducible first | exact HB.out | apply qAd | apply qAb | apply qAe | refine qAg ?_ GE171.out) | exact HB.out)))); have n6_ := Aside0.mk (qAk (g := gb171) (o := .cells #[.int .i64 t161, .bool t162, .int .i64 t163, .string t164, .slice Ao20 t165.length co20, .slice Ao21 t168.length co21] 25 (0, 0)) (by (with_reducible repeat (first | refine qAf ?_ _ | refine qAh ?_ | refine blk_alloc ?_ _)); exact BK171.out) hb); have n7_ := Aside0.mk (qAi (by repeat (first | (with_reducible first | exact HB.out | apply qAd | apply qAb | apply qAe | refine qAg ?_ GE171.out) | exact HB.out)) hb); clear HO157; clear HO160; clear HO167; clear HO170; clear BK171; clear HB; have HO157 := n0_; have HO160 := n1_; have HO167 := n2_; have HO170 := n3_; have HO180 := n4_; have HO183 := n5_; have BK171 := n6_; have HB := n7_; clear n0_ n1_ n2_ n3_ n4_ n5_ n6_ n7_; (try clear hb); (try clear hb2); (try clear hk); (try clear hi); (try clear ho0); (try clear ho1)) | ((with_reducible refine qA0 (N := 4) rfl ?_); refine qAz ?hg (N := 4) ?hd (cs := #[.int .i64 0, .bool false, .int .i64 0, .string (⟨#[]⟩ : ByteArray), .slice none 0 0, .slice none 0 0]) (t := 25) ?hr ?_; (case hd => rfl); (case hg => rfl); (case hr => first | (go_simp; done) | (go_simp; rfl)); intro gb185 hg w25 hbox hb; have n0_ := Aside0.mk (Kd.R_below (by (with_reducible repeat (first | apply Kd.R_alloc | apply Kd.R_drewN | apply Kd.R_drew)); exact HO157.out) hb); have n1_ := Aside0.mk (Kd.R_below (Kd.R_elderB (by (with_reducible repeat (first | apply Kd.R_alloc | apply Kd.R_drewN | apply Kd.R_drew)); exact HO160.out) gb185 (Nat.le_of_eq hg.symm)) hb); have n2_ := Aside0.mk (Kd.R_below (Kd.R_elderB (by (with_reducible repeat (first | apply Kd.R_alloc | apply Kd.R_drewN | apply Kd.R_drew)); exact HO167.out) gb185 (Nat.le_of_eq hg.symm)) hb); have n3_ := Aside0.mk (Kd.R_below (by (with_reducible repeat (first | apply Kd.R_alloc | apply Kd.R_drewN | apply Kd.R_drew)); exact HO170.out) hb); have n4_ := Aside0.mk (Kd.R_below (Kd.R_elderB (by (with_reducible repeat (first | apply Kd.R_alloc | apply Kd.R_drewN | apply Kd.R_drew)); exact HO180.out) gb185 (Nat.le_of_eq hg.symm)) hb); have n5_ := Aside0.mk (Kd.R_below (by (with_reducible repeat (first | apply Kd.R_alloc | apply Kd.R_drewN | apply Kd.R_drew)); exact HO183.out) hb); have n6_ := Aside0.mk (qAk (g := gb171) (o := .cells #[.int .i64 t161, .bool t162, .int .i64 t163, .string t164, .slice Ao20 t165.length co20, .slice Ao21 t168.length co21] 25 (0, 0)) (by (with_reducible repeat (first | refine qAf ?_ _ | refine qAh ?_ | refine blk_alloc ?_ _)); exact BK171.out) hb); have n7_ := Aside0.mk (qAi (by repeat (first | (with_reducible first | exact HB.out | apply qAd | apply qAb | apply qAe | refine qAg ?_ GE171.out) | exact HB.out)) hb); have n8_ := Aside0.mk (hbox); have n9_ := Aside0.mk ((by rw [hg]; exact (qAj (by repeat (first | (with_reducible first | exact HB.out | apply qAd | apply qAb | apply qAe | refine qAg ?_ GE171.out) | exact HB.out))) : w.heap.size ≤ gb185)); have n10_ := Aside0.mk ((by rw [hg]; exact (qAj (by repeat (first | (with_reducible first | exact HB.out | apply qAd | apply qAb | apply qAe | refine qAg ?_ GE171.out) | exact HB.out))) : w.heap.size ≤ gb185)); have n11_ := Aside0.mk ((by rw [hg]; exact Nat.ne_of_lt (blk_lt (g := gb171) (o := .cells #[.int .i64 t161, .bool t162, .int .i64 t163, .string t164, .slice Ao20 t165.length co20, .slice Ao21 t168.length co21] 25 (0, 0)) (by (with_reducible repeat (first | refine qAf ?_ _ | refine qAh ?_ | refine blk_alloc ?_ _)); exact BK171.out)) : gb171 ≠ gb185)); have n12_ := Aside0.mk ((by rw [hg]; exact Nat.ne_of_gt (blk_lt (g := gb171) (o := .cells #[.int .i64 t161, .bool t162, .int .i64 t163, .string t164, .slice Ao20 t165.length co20, .slice Ao21 t168.length co21] 25 (0, 0)) (by (with_reducible repeat (first | refine qAf ?_ _ | refine qAh ?_ | refine blk_alloc ?_ _)); exact BK171.out)) : gb185 ≠ gb171)); clear HO157; clear HO160; clear HO167; clear HO170; clear HO180; clear HO183; clear BK171; clear HB; have HO157 := n0_; have HO160 := n1_; have HO167 := n2_; have HO170 := n3_; have HO180 := n4_; have HO183 := n5_; have BK171 := n6_; have HB := n7_; have BK185 := n8_; have GW185 := n9_; have GE185 := n10_; have NB171_185 := n11_; have NB185_171 := n12_; clear n0_ n1_ n2_ n3_ n4_ n5_ n6_ n7_ n8_ n9_ n10_ n11_ n12_; clear hb hbox hg; have hnb26 := NB185_171.out; have hnc26 := NB171_185.out; have hcz27_0 : w25.cell? ⟨gb185, 0, none⟩ = some (.int .i64 0) := (qAc BK185.out 0).trans rfl; have hcz27_1 : w25.cell? ⟨gb185, 1, none⟩ = some (.bool false) := (qAc BK185.out 1).trans rfl; have hcz27_2 : w25.cell? ⟨gb185, 2, none⟩ = some (.int .i64 0) := (qAc BK185.out 2).trans rfl; have hcz27_3 : w25.cell? ⟨gb185, 3, none⟩ = some (.string (⟨#[]⟩ : ByteArray)) := (qAc BK185.out 3).trans rfl; have hcz27_4 : w25.cell? ⟨gb185, 4, none⟩ = some (.slice none 0 0) := (qAc BK185.out 4).trans rfl; have hcz27_5 : w25.cell? ⟨gb185, 5, none⟩ = some (.slice none 0 0) := (qAc BK185.out 5).trans rfl; have hfz27_0 := qAa BK185.out 0; have hfz27_1 := qAa BK185.out 1; have hfz27_2 := qAa BK185.out 2; have hfz27_3 := qAa BK185.out 3; have hfz27_4 := qAa BK185.out 4; have hfz27_5 := qAa BK185.out 5; obtain ⟨Ao28, co28, eo28⟩ := Kd.R_slice HO180.out; subst eo28; obtain ⟨Ao29, co29, eo29⟩ := Kd.R_slice HO183.out; subst eo29; have hcz30_0 : w25.cell? ⟨gb171, 0, none⟩ = some (.int .i64 t161) := (qAc BK171.out 0).trans rfl; have hcz30_1 : w25.cell? ⟨gb171, 1, none⟩ = some (.bool t162) := (qAc BK171.out 1).trans rfl; have hcz30_2 : w25.cell? ⟨gb171, 2, none⟩ = some (.int .i64 t163) := (qAc BK171.out 2).trans rfl; have hcz30_3 : w25.cell? ⟨gb171, 3, none⟩ = some (.string t164) := (qAc BK171.out 3).trans rfl; have hcz30_4 : w25.cell? ⟨gb171, 4, none⟩ = some (.slice Ao20 t165.length co20) := (qAc BK171.out 4).trans rfl; have hcz30_5 : w25.cell? ⟨gb171, 5, none⟩ = some (.slice Ao21 t168.length co21) := (qAc BK171.out 5).trans rfl; have hfz30_0 := qAa BK171.out 0; have hfz30_1 := qAa BK171.out 1; have hfz30_2 := qAa BK171.out 2; have hfz30_3 := qAa BK171.out 3; have hfz30_4 := qAa BK171.out 4; have hfz30_5 := qAa BK171.out 5) | (go_at_call 21; (with_reducible refine (value_May.calls t161 t162 t163 t164 _ _ t165 _ _ t168 true _ ?side1 ?side2 ?side3 ?side4 A8.out).mono ?_); (case side1 => refine (Kd.R_reads' (e := 25) (base := w.heap.size) (ok := fun k_ => ((((((some k_ ≠ (.slice Ao21 t168.length co21 : Value).ownBlock ∧ some k_ ≠ (.slice Ao15 y155.length co15 : Value).ownBlock) ∧ some k_ ≠ (.slice Ao16 y158.length co16 : Value).ownBlock) ∧ k_ ≠ gb171) ∧ some k_ ≠ (.slice Ao28 t178.length co28 : Value).ownBlock) ∧ some k_ ≠ (.slice Ao29 t181.length co29 : Value).ownBlock) ∧ k_ ≠ gb185)) (n := t165.length) (c := co20) ?_).2.2; exact (by (with_reducible repeat (first | apply Kd.R_alloc | apply Kd.R_drewN | apply Kd.R_drew)); exact (Kd.R_mono (Kd.R_far (p := ⟨gb185, 5, none⟩) (Kd.R_far (p := ⟨gb185, 4, none⟩) (Kd.R_far (p := ⟨gb185, 3, none⟩) (Kd.R_far (p := ⟨gb185, 2, none⟩) (Kd.R_far (p := ⟨gb185, 1, none⟩) (Kd.R_far (p := ⟨gb185, 0, none⟩) (Kd.R_mono HO167.out (fun k_ hk => (⟨hk, hk.2⟩ : _ ∧ k_ ≠ gb185))) (fun _ hk => hk.2) (.int .i64 t174)) (fun _ hk => hk.2) (.bool t175)) (fun _ hk => hk.2) (.int .i64 t176)) (fun _ hk => hk.2) (.string t177)) (fun _ hk => hk.2) (.slice Ao28 t178.length co28)) (fun _ hk => hk.2) (.slice Ao29 t181.length co29)) (fun _ h_ => h_.1)))); (case side2 => exact (Kd.R_reads' HO167.out).2.1); (case side3 => refine (Kd.R_reads' (e := 9) (base := w.heap.size) (ok := fun k_ => ((True ∧ some k_ ≠ (.slice Ao15 y155.length co15 : Value).ownBlock) ∧ some k_ ≠ (.slice Ao29 t181.length co29 : Value).ownBlock)) (n := t168.length) (c := co21) ?_).2.2; exact (by (with_reducible repeat (first | apply Kd.R_alloc | apply Kd.R_drewN | apply Kd.R_drew)); exact (Kd.R_mono (Kd.R_far (p := ⟨gb185, 5, none⟩) (Kd.R_far (p := ⟨gb185, 4, none⟩) (Kd.R_far (p := ⟨gb185, 3, none⟩) (Kd.R_far (p := ⟨gb185, 2, none⟩) (Kd.R_far (p := ⟨gb185, 1, none⟩) (Kd.R_far (p := ⟨gb185, 0, none⟩) (Kd.R_types HO170.out BK185.out (by decide)) (fun _ hk => hk.2) (.int .i64 t174)) (fun _ hk => hk.2) (.bool t175)) (fun _ hk => hk.2) (.int .i64 t176)) (fun _ hk => hk.2) (.string t177)) (fun _ hk => hk.2) (.slice Ao28 t178.length co28)) (fun _ hk => hk.2) (.slice Ao29 t181.length co29)) (fun _ h_ => h_.1)))); (case side4 => exact (Kd.R_reads' HO170.out).2.1); rintro e w31 ⟨rfl, hb⟩; have n0_ := Aside0.mk (Kd.R_below (by (with_reducible repeat (first | apply Kd.R_alloc | apply Kd.R_drewN | apply Kd.R_drew)); exact (Kd.R_mono (Kd.R_far (p := ⟨gb185, 5, none⟩) (Kd.R_far (p := ⟨gb185, 4, none⟩) (Kd.R_far (p := ⟨gb185, 3, none⟩) (Kd.R_far (p := ⟨gb185, 2, none⟩) (Kd.R_far (p := ⟨gb185, 1, none⟩) (Kd.R_far (p := ⟨gb185, 0, none⟩) (Kd.R_types HO157.out BK185.out (by decide)) (fun _ hk => hk.2) (.int .i64 t174)) (fun _ hk => hk.2) (.bool t175)) (fun _ hk => hk.2) (.int .i64 t176)) (fun _ hk => hk.2) (.string t177)) (fun _ hk => hk.2) (.slice Ao28 t178.length co28)) (fun _ hk => hk.2) (.slice Ao29 t181.length co29)) (fun _ h_ => h_.1))) hb); have n1_ := Aside0.mk (Kd.R_below (by (with_reducible repeat (first | apply Kd.R_alloc | apply Kd.R_drewN | apply Kd.R_drew)); exact (Kd.R_mono (Kd.R_far (p := ⟨gb185, 5, none⟩) (Kd.R_far (p := ⟨gb185, 4, none⟩) (Kd.R_far (p := ⟨gb185, 3, none⟩) (Kd.R_far (p := ⟨gb185, 2, none⟩) (Kd.R_far (p := ⟨gb185, 1, none⟩) (Kd.R_far (p := ⟨gb185, 0, none⟩) (Kd.R_mono HO160.out (fun k_ hk => (⟨hk, hk.2⟩ : _ ∧ k_ ≠ gb185))) (fun _ hk => hk.2) (.int .i64 t174)) (fun _ hk => hk.2) (.bool t175)) (fun _ hk => hk.2) (.int .i64 t176)) (fun _ hk => hk.2) (.string t177)) (fun _ hk => hk.2) (.slice Ao28 t178.length co28)) (fun _ hk => hk.2) (.slice Ao29 t181.length co29)) (fun _ h_ => h_.1))) hb); have n2_ := Aside0.mk (Kd.R_below (by (with_reducible repeat (first | apply Kd.R_alloc | apply Kd.R_drewN | apply Kd.R_drew)); exact (Kd.R_mono (Kd.R_far (p := ⟨gb185, 5, none⟩) (Kd.R_far (p := ⟨gb185, 4, none⟩) (Kd.R_far (p := ⟨gb185, 3, none⟩) (Kd.R_far (p := ⟨gb185, 2, none⟩) (Kd.R_far (p := ⟨gb185, 1, none⟩) (Kd.R_far (p := ⟨gb185, 0, none⟩) (Kd.R_mono HO167.out (fun k_ hk => (⟨hk, hk.2⟩ : _ ∧ k_ ≠ gb185))) (fun _ hk => hk.2) (.int .i64 t174)) (fun _ hk => hk.2) (.bool t175)) (fun _ hk => hk.2) (.int .i64 t176)) (fun _ hk => hk.2) (.string t177)) (fun _ hk => hk.2) (.slice Ao28 t178.length co28)) (fun _ hk => hk.2) (.slice Ao29 t181.length co29)) (fun _ h_ => h_.1))) hb); have n3_ := Aside0.mk (Kd.R_below (by (with_reducible repeat (first | apply Kd.R_alloc | apply Kd.R_drewN | apply Kd.R_drew)); exact (Kd.R_mono (Kd.R_far (p := ⟨gb185, 5, none⟩) (Kd.R_far (p := ⟨gb185, 4, none⟩) (Kd.R_far (p := ⟨gb185, 3, none⟩) (Kd.R_far (p := ⟨gb185, 2, none⟩) (Kd.R_far (p := ⟨gb185, 1, none⟩) (Kd.R_far (p := ⟨gb185, 0, none⟩) (Kd.R_types HO170.out BK185.out (by decide)) (fun _ hk => hk.2) (.int .i64 t174)) (fun _ hk => hk.2) (.bool t175)) (fun _ hk => hk.2) (.int .i64 t176)) (fun _ hk => hk.2) (.string t177)) (fun _ hk => hk.2) (.slice Ao28 t178.length co28)) (fun _ hk => hk.2) (.slice Ao29 t181.length co29)) (fun _ h_ => h_.1))) hb); have n4_ := Aside0.mk (Kd.R_below (by (with_reducible repeat (first | apply Kd.R_alloc | apply Kd.R_drewN | apply Kd.R_drew)); exact (Kd.R_mono (Kd.R_far (p := ⟨gb185, 5, none⟩) (Kd.R_far (p := ⟨gb185, 4, none⟩) (Kd.R_far (p := ⟨gb185, 3, none⟩) (Kd.R_far (p := ⟨gb185, 2, none⟩) (Kd.R_far (p := ⟨gb185, 1, none⟩) (Kd.R_far (p := ⟨gb185, 0, none⟩) (Kd.R_mono HO180.out (fun k_ hk => (⟨hk, hk.2⟩ : _ ∧ k_ ≠ gb185))) (fun _ hk => hk.2) (.int .i64 t174)) (fun _ hk => hk.2) (.bool t175)) (fun _ hk => hk.2) (.int .i64 t176)) (fun _ hk => hk.2) (.string t177)) (fun _ hk => hk.2) (.slice Ao28 t178.length co28)) (fun _ hk => hk.2) (.slice Ao29 t181.length co29)) (fun _ h_ => h_.1))) hb); have n5_ := Aside0.mk (Kd.R_below (by (with_reducible repeat (first | apply Kd.R_alloc | apply Kd.R_drewN | apply Kd.R_drew)); exact (Kd.R_mono (Kd.R_far (p := ⟨gb185, 5, none⟩) (Kd.R_far (p := ⟨gb185, 4, none⟩) (Kd.R_far (p := ⟨gb185, 3, none⟩) (Kd.R_far (p := ⟨gb185, 2, none⟩) (Kd.R_far (p := ⟨gb185, 1, none⟩) (Kd.R_far (p := ⟨gb185, 0, none⟩) (Kd.R_types HO183.out BK185.out (by decide)) (fun _ hk => hk.2) (.int .i64 t174)) (fun _ hk => hk.2) (.bool t175)) (fun _ hk => hk.2) (.int .i64 t176)) (fun _ hk => hk.2) (.string t177)) (fun _ hk => hk.2) (.slice Ao28 t178.length co28)) (fun _ hk => hk.2) (.slice Ao29 t181.length co29)) (fun _ h_ => h_.1))) hb); have n6_ := Aside0.mk (qAk (g := gb171) (o := .cells #[.int .i64 t161, .bool t162, .int .i64 t163, .string t164, .slice Ao20 t165.length co20, .slice Ao21 t168.length co21] 25 (0, 0)) (by (with_reducible repeat (first | refine qAf ?_ _ | refine qAh ?_ | refine blk_alloc ?_ _)); refine qAv ?_ NB171_185.out _; (with_reducible repeat (first | refine qAf ?_ _ | refine qAh ?_ | refine blk_alloc ?_ _)); refine qAv ?_ NB171_185.out _; (with_reducible repeat (first | refine qAf ?_ _ | refine qAh ?_ | refine blk_alloc ?_ _)); refine qAv ?_ NB171_185.out _; (with_reducible repeat (first | refine qAf ?_ _ | refine qAh ?_ | refine blk_alloc ?_ _)); refine qAv ?_ NB171_185.out _; (with_reducible repeat (first | refine qAf ?_ _ | refine qAh ?_ | refine blk_alloc ?_ _)); refine qAv ?_ NB171_185.out _; (with_reducible repeat (first | refine qAf ?_ _ | refine qAh ?_ | refine blk_alloc ?_ _)); refine qAv ?_ NB171_185.out _; (with_reducible repeat (first | refine qAf ?_ _ | refine qAh ?_ | refine blk_alloc ?_ _)); exact BK171.out) hb); have n7_ := Aside0.mk (qAk (g := gb185) (o := .cells #[.int .i64 t174, .bool t175, .int .i64 t176, .string t177, .slice Ao28 t178.length co28, .slice Ao29 t181.length co29] 25 (0, 0)) (by (with_reducible repeat (first | refine qAf ?_ _ | refine qAh ?_ | refine blk_alloc ?_ _)); refine qAo (cs := #[.int .i64 t174, .bool t175, .int .i64 t176, .string t177, .slice Ao28 t178.length co28, .slice none 0 0]) ?_ 5 _ rfl; (with_reducible repeat (first | refine qAf ?_ _ | refine qAh ?_ | refine blk_alloc ?_ _)); refine qAo (cs := #[.int .i64 t174, .bool t175, .int .i64 t176, .string t177, .slice none 0 0, .slice none 0 0]) ?_ 4 _ rfl; (with_reducible repeat (first | refine qAf ?_ _ | refine qAh ?_ | refine blk_alloc ?_ _)); refine qAo (cs := #[.int .i64 t174, .bool t175, .int .i64 t176, .string (⟨#[]⟩ : ByteArray), .slice none 0 0, .slice none 0 0]) ?_ 3 _ rfl; (with_reducible repeat (first | refine qAf ?_ _ | refine qAh ?_ | refine blk_alloc ?_ _)); refine qAo (cs := #[.int .i64 t174, .bool t175, .int .i64 0, .string (⟨#[]⟩ : ByteArray), .slice none 0 0, .slice none 0 0]) ?_ 2 _ rfl; (with_reducible repeat (first | refine qAf ?_ _ | refine qAh ?_ | refine blk_alloc ?_ _)); refine qAo (cs := #[.int .i64 t174, .bool false, .int .i64 0, .string (⟨#[]⟩ : ByteArray), .slice none 0 0, .slice none 0 0]) ?_ 1 _ rfl; (with_reducible repeat (first | refine qAf ?_ _ | refine qAh ?_ | refine blk_alloc ?_ _)); refine qAo (cs := #[.int .i64 0, .bool false, .int .i64 0, .string (⟨#[]⟩ : ByteArray), .slice none 0 0, .slice none 0 0]) ?_ 0 _ rfl; (with_reducible repeat (first | refine qAf ?_ _ | refine qAh ?_ | refine blk_alloc ?_ _)); exact BK185.out) hb); have n8_ := Aside0.mk (qAi (by repeat (first | (with_reducible first | exact HB.out | apply qAd | apply qAb | apply qAe | refine qAg ?_ GE171.out | refine qAg ?_ GE185.out) | exact HB.out)) hb); clear HO157; clear HO160; clear HO167; clear HO170; clear HO180; clear HO183; clear BK171; clear BK185; clear HB; have HO157 := n0_; have HO160 := n1_; have HO167 := n2_; have HO170 := n3_; have HO180 := n4_; have HO183 := n5_; have BK171 := n6_; have BK185 := n7_; have HB := n8_; clear n0_ n1_ n2_ n3_ n4_ n5_ n6_ n7_ n8_; (try clear hb); (try clear hb2); (try clear hk); (try clear hi); have hcz32_0 : w31.cell? ⟨gb171, 0, none⟩ = some (.int .i64 t161) := (qAc BK171.out 0).trans rfl; have hcz32_1 : w31.cell? ⟨gb171, 1, none⟩ = some (.bool t162) := (qAc BK171.out 1).trans rfl; have hcz32_2 : w31.cell? ⟨gb171, 2, none⟩ = some (.int .i64 t163) := (qAc BK171.out 2).trans rfl; have hcz32_3 : w31.cell? ⟨gb171, 3, none⟩ = some (.string t164) := (qAc BK171.out 3).trans rfl; have hcz32_4 : w31.cell? ⟨gb171, 4, none⟩ = some (.slice Ao20 t165.length co20) := (qAc BK171.out 4).trans rfl; have hcz32_5 : w31.cell? ⟨gb171, 5, none⟩ = some (.slice Ao21 t168.length co21) := (qAc BK171.out 5).trans rfl; have hfz32_0 := qAa BK171.out 0; have hfz32_1 := qAa BK171.out 1; have hfz32_2 := qAa BK171.out 2; have hfz32_3 := qAa BK171.out 3; have hfz32_4 := qAa BK171.out 4; have hfz32_5 := qAa BK171.out 5) | (go_at_call 23; (with_reducible refine (value_Same.calls t161 t162 t163 t164 _ _ t165 _ _ t168 t161 t162 t163 t164 _ _ t165 _ _ t168 t187 _ ?side1 ?side2 ?side3 ?side4 ?side5 ?side6 ?side7 ?side8 A10.out).mono ?_); (case side1 => repeat (first | exact (Kd.R_reads' HO167.out).2.2 | (with_reducible refine Kd.C_alloc ?_ _) | (with_reducible refine Kd.C_drewN ?_ _) | (with_reducible refine Kd.C_drew ?_))); (case side2 => exact (Kd.R_reads' HO167.out).2.1); (case side3 => repeat (first | exact (Kd.R_reads' HO170.out).2.2 | (with_reducible refine Kd.C_alloc ?_ _) | (with_reducible refine Kd.C_drewN ?_ _) | (with_reducible refine Kd.C_drew ?_))); (case side4 => exact (Kd.R_reads' HO170.out).2.1); (case side5 => repeat (first | exact (Kd.R_reads' HO167.out).2.2 | (with_reducible refine Kd.C_alloc ?_ _) | (with_reducible refine Kd.C_drewN ?_ _) | (with_reducible refine Kd.C_drew ?_))); (case side6 => exact (Kd.R_reads' HO167.out).2.1); (case side7 => repeat (first | exact (Kd.R_reads' HO170.out).2.2 | (with_reducible refine Kd.C_alloc ?_ _) | (with_reducible refine Kd.C_drewN ?_ _) | (with_reducible refine Kd.C_drew ?_))); (case side8 => exact (Kd.R_reads' HO170.out).2.1); rintro e w33 ⟨rfl, hb⟩; have n0_ := Aside0.mk (Kd.R_below (by (with_reducible repeat (first | apply Kd.R_alloc | apply Kd.R_drewN | apply Kd.R_drew)); exact HO157.out) hb); have n1_ := Aside0.mk (Kd.R_below (by (with_reducible repeat (first | apply Kd.R_alloc | apply Kd.R_drewN | apply Kd.R_drew)); exact HO160.out) hb); have n2_ := Aside0.mk (Kd.R_below (by (with_reducible repeat (first | apply Kd.R_alloc | apply Kd.R_drewN | apply Kd.R_drew)); exact HO167.out) hb); have n3_ := Aside0.mk (Kd.R_below (by (with_reducible repeat (first | apply Kd.R_alloc | apply Kd.R_drewN | apply Kd.R_drew)); exact HO170.out) hb); have n4_ := Aside0.mk (Kd.R_below (by (with_reducible repeat (first | apply Kd.R_alloc | apply Kd.R_drewN | apply Kd.R_drew)); exact HO180.out) hb); have n5_ := Aside0.mk (Kd.R_below (by (with_reducible repeat (first | apply Kd.R_alloc | apply Kd.R_drewN | apply Kd.R_drew)); exact HO183.out) hb); have n6_ := Aside0.mk (qAk (g := gb171) (o := .cells #[.int .i64 t161, .bool t162, .int .i64 t163, .string t164, .slice Ao20 t165.length co20, .slice Ao21 t168.length co21] 25 (0, 0)) (by (with_reducible repeat (first | refine qAf ?_ _ | refine qAh ?_ | refine blk_alloc ?_ _)); exact BK171.out) hb); have n7_ := Aside0.mk (qAk (g := gb185) (o := .cells #[.int .i64 t174, .bool t175, .int .i64 t176, .string t177, .slice Ao28 t178.length co28, .slice Ao29 t181.length co29] 25 (0, 0)) (by (with_reducible repeat (first | refine qAf ?_ _ | refine qAh ?_ | refine blk_alloc ?_ _)); exact BK185.out) hb); have n8_ := Aside0.mk (qAi (by repeat (first | (with_reducible first | exact HB.out | apply qAd | apply qAb | apply qAe | refine qAg ?_ GE171.out | refine qAg ?_ GE185.out) | exact HB.out)) hb); clear HO157; clear HO160; clear HO167; clear HO170; clear HO180; clear HO183; clear BK171; clear BK185; clear HB; have HO157 := n0_; have HO160 := n1_; have HO167 := n2_; have HO170 := n3_; have HO180 := n4_; have HO183 := n5_; have BK171 := n6_; have BK185 := n7_; have HB := n8_; clear n0_ n1_ n2_ n3_ n4_ n5_ n6_ n7_ n8_; (try clear hb); (try clear hb2); (try clear hk); (try clear hi)))
      go_ret
      exact ⟨by first | rfl | (simp [qAm, qAl] <;> rfl) | (simp [*, qAm, qAl] <;> rfl), by repeat (first | (with_reducible first | exact HB.out | apply qAd | apply qAb | apply qAe | refine qAg ?_ GE171.out | refine qAg ?_ GE185.out) | exact HB.out)⟩
     ·replace c9 := Bool.eq_false_iff.mpr c9
      subst c9
      have H1 : (some false) = some r := by rw [if_neg (show ¬ (false = true) by decide)] at H; exact H
      clear H
      have H := H1
      clear H1
      exact absurd (H.trans (congrArg some hr_.out)) (by simp)
    ·replace c7 := Bool.eq_false_iff.mpr c7
     subst c7
     have H1 : (some false) = some r := by rw [if_neg (show ¬ (false = true) by decide)] at H; exact H
     clear H
     have H := H1
     clear H1
     exact absurd (H.trans (congrArg some hr_.out)) (by simp)
   ·rw [if_neg c6] at H
    have c6b0 : (t176 == 1) = false := beq_eq_false_iff_ne.mpr c6
    have c6b1 : (t176 != 1) = true := bne_iff_ne.mpr c6
    exact absurd (H.trans (congrArg some hr_.out)) (by simp)
  ·rw [if_neg c5] at H
   have c5b0 : (t173 == 0) = false := beq_eq_false_iff_ne.mpr c5
   have c5b1 : (t173 != 0) = true := bne_iff_ne.mpr c5
   exact absurd (H.trans (congrArg some hr_.out)) (by simp)
 ·rw [if_neg c4] at H
  have c4b0 : (t172.toList == ([123, 34, 97, 34, 58, 116, 114, 117, 101, 44, 34, 98, 34, 58, 49, 125] : List UInt8)) = false := beq_eq_false_iff_ne.mpr c4
  have c4b1 : (t172.toList != ([123, 34, 97, 34, 58, 116, 114, 117, 101, 44, 34, 98, 34, 58, 49, 125] : List UInt8)) = true := bne_iff_ne.mpr c4
  exact absurd (H.trans (congrArg some hr_.out)) (by simp)
end Go.Proofs.YtbnoihpooeombaaDoor.P

namespace Go.Proofs.YtbnoihpooeombaaDoor.X
open Go.RowKit Go.Proofs.YtbnoihpooeombaaDoorW.PrintWords Go.Proofs.YtbnoihpooeombaaDoor.P
set_option linter.unusedVariables false
set_option linter.unusedSimpArgs false
def ofP : List ByteArray → List S25 → List ByteArray → List S25 → List ByteArray × List S25
  | key :: ks, v :: vs, K, V => if isK K key = true then ofP ks vs K V else ofP ks vs (K.take (posK K key) ++ key :: K.drop (posK K key)) (V.take (posK K key) ++ v :: V.drop (posK K key))
  | _, _, K, V => (K, V)
theorem qCi : ∀ (K : List ByteArray) (key : ByteArray), qAx K = true → isK K key = false → qAx (K.take (posK K key) ++ key :: K.drop (posK K key)) = true
  | [], key, _, _ => rfl
  | a :: K, key, hr, hi => by
    obtain ⟨h1, h2⟩ := qBr hr
    by_cases c : lessB a key = true
    · have hp : posK (a :: K) key = posK K key + 1 := by unfold posK; rw [List.takeWhile_cons_of_pos (p := fun s => lessB s key) c, List.length_cons]
      have hi2 : isK K key = false := by
        cases e : isK K key with
        | false => rfl
        | true =>
          have := (qE6 K key h1).1 e
          rw [(qE6 (a :: K) key hr).2 (List.mem_cons_of_mem _ this)] at hi
          cases hi
      rw [hp, List.take_succ_cons, List.drop_succ_cons, List.cons_append]
      refine qDa (qCi K key h1 hi2) (fun s hs => ?_)
      rcases List.mem_append.1 hs with hs | hs
      · exact h2 s (List.mem_of_mem_take hs)
      · rcases List.mem_cons.1 hs with rfl | hs
        · exact c
        · exact h2 s (List.mem_of_mem_drop hs)
    · have hp : posK (a :: K) key = 0 := by unfold posK; rw [List.takeWhile_cons_of_neg (p := fun s => lessB s key) c]; rfl
      rw [hp, List.take_zero, List.drop_zero, List.nil_append]
      have hne : a ≠ key := fun e => by
        rw [(qE6 (a :: K) key hr).2 (e ▸ List.mem_cons_self ..)] at hi; cases hi
      have hka : lessB key a = true := by
        cases e : lessB key a with
        | true => rfl
        | false => exact absurd (qF2 (eq_false_of_ne_true c) e) hne
      refine qDa hr (fun s hs => ?_)
      rcases List.mem_cons.1 hs with rfl | hs
      · exact hka
      · exact qCw hka (h2 s hs)
theorem qE1 : ∀ (ks : List ByteArray) (vs : List S25) (K : List ByteArray) (V : List S25), qAx K = true → K.length + ks.length ≤ 200000 → Ev (fun k => ofL k ks vs K V) (ofP ks vs K V)
  | [], vs, K, V, _, _ => by
    cases vs <;> exact Ev.now _
  | _ :: _, [], K, V, _, _ => Ev.now _
  | key :: ks, v :: vs, K, V, hr, hn => by
    obtain ⟨K1, h1⟩ := qEj K key hr (by omega)
    rw [List.length_cons] at hn
    cases hi : isK K key with
    | true =>
      obtain ⟨K2, h2⟩ := qE1 ks vs K V hr (by omega)
      refine ⟨K1 + K2, fun k hk => ?_⟩
      have h1 := h1 k (by omega)
      have h2 := h2 k (by omega)
      simp only at h1 h2
      show ofL k _ _ _ _ = _
      rw [ofL, h1, ofP, if_pos hi]
      simp only [Option.bind_some]
      rw [if_pos hi]
      exact h2
    | false =>
      obtain ⟨K2, h2⟩ := qE1 ks vs (K.take (posK K key) ++ key :: K.drop (posK K key)) (V.take (posK K key) ++ v :: V.drop (posK K key)) (qCi K key hr hi) (by
        simp only [List.length_append, List.length_cons, List.length_take, List.length_drop]; omega)
      refine ⟨K1 + K2, fun k hk => ?_⟩
      have h1 := h1 k (by omega)
      have h2 := h2 k (by omega)
      simp only at h1 h2
      have hp := qGl K key
      show ofL k _ _ _ _ = _
      rw [ofL, h1, ofP, if_neg (by rw [hi]; decide)]
      simp only [Option.bind_some]
      rw [if_neg (by rw [hi]; decide), if_pos ⟨by omega, by omega⟩]
      exact h2
theorem of_val (ks : List ByteArray) (vs : List S25) (hn : ks.length ≤ 100000) : Ev (fun k => value_Of.f k ks vs) (ofR (ofP ks vs [] []).1 (ofP ks vs [] []).2) := by
  obtain ⟨K, hK⟩ := qE1 ks vs [] [] rfl (by simp; omega)
  refine ⟨K, fun k hk => ?_⟩
  have hK := hK k hk
  simp only at hK
  show value_Of.f k ks vs = _
  unfold value_Of.f
  rw [if_pos hn, hK]
  rfl
def awV : S25 := ⟨5, false, 0, ⟨#[]⟩, [⟨1, true, 0, ⟨#[]⟩, [], []⟩, ⟨2, false, 1, ⟨#[]⟩, [], []⟩], [⟨#[97]⟩, ⟨#[98]⟩]⟩
theorem qHs : ofP [⟨#[98]⟩, ⟨#[97]⟩] [⟨2, false, 1, ⟨#[]⟩, [], []⟩, ⟨1, true, 0, ⟨#[]⟩, [], []⟩] [] [] = ([⟨#[97]⟩, ⟨#[98]⟩], [⟨1, true, 0, ⟨#[]⟩, [], []⟩, ⟨2, false, 1, ⟨#[]⟩, [], []⟩]) := by
  simp [ofP, isK, posK, lessB, ByteArray.toList_eq, Op.bytesLess]
theorem awT : T 2 4000 awV := by
  refine ⟨⟨by decide, by decide, ?_, ?_⟩, by decide⟩
  · intro s hs
    simp only [awV, List.mem_cons, List.not_mem_nil, or_false] at hs
    rcases hs with rfl | rfl <;> decide
  · intro y hy
    simp only [awV, List.mem_cons, List.not_mem_nil, or_false] at hy
    rcases hy with rfl | rfl <;> (refine ⟨by decide, by decide, ?_, ?_⟩ <;> (intro s hs; cases hs))
theorem awGood : goodV 16 awV = true := by
  simp [goodV, awV, qA7, qAx, ByteArray.toList_eq, Op.bytesLess]
  rfl
theorem awText : (textB 16 awV).toList = [123, 34, 97, 34, 58, 116, 114, 117, 101, 44, 34, 98, 34, 58, 49, 125] := by
  have h : textI 16 awV = [123, 34, 97, 34, 58, 116, 114, 117, 101, 44, 34, 98, 34, 58, 49, 125] := by
    have h1 : itoaB 1 = ⟨#[49]⟩ := by
      unfold itoaB Lib.itoa
      rw [if_neg (by decide), Lib.decDigits_one (by decide)]
      rfl
    rw [text_5 15 awV rfl]
    simp only [awV, qAq]
    rw [text_1 14 _ rfl, text_2 14 _ rfl]
    simp only [h1, if_true]
    rfl
  rw [textB, h, ByteArray.toList_eq]
  rfl
theorem qC1 : Ev (fun k => hogsheadlaw15_awake.f k) true := by
  obtain ⟨K1, h1⟩ := of_val [⟨#[98]⟩, ⟨#[97]⟩] [⟨2, false, 1, ⟨#[]⟩, [], []⟩, ⟨1, true, 0, ⟨#[]⟩, [], []⟩] (by simp)
  obtain ⟨K2, h2⟩ := qEa awT
  obtain ⟨K3, h3⟩ := qH5 ⟨#[98]⟩ awT
  rw [qHs] at h1
  have hr : ofR [⟨#[97]⟩, ⟨#[98]⟩] [⟨1, true, 0, ⟨#[]⟩, [], []⟩, ⟨2, false, 1, ⟨#[]⟩, [], []⟩] = (5, false, 0, ⟨#[]⟩, [⟨1, true, 0, ⟨#[]⟩, [], []⟩, ⟨2, false, 1, ⟨#[]⟩, [], []⟩], [⟨#[97]⟩, ⟨#[98]⟩]) := by
    have h : (mayV 16 ⟨5, false, 0, ByteArray.empty, [⟨1, true, 0, ⟨#[]⟩, [], []⟩, ⟨2, false, 1, ⟨#[]⟩, [], []⟩], [⟨#[97]⟩, ⟨#[98]⟩]⟩ 0).2 = true := (qB3 2 awV awT).trans awGood
    unfold ofR
    rw [if_pos h]
    rfl
  refine ⟨K1 + K2 + K3, fun k hk => ?_⟩
  have h1 := h1 k (by omega)
  have h2 := h2 k (by omega)
  have h3 := h3 k (by omega)
  simp only at h1 h2 h3
  rw [hr] at h1
  rw [if_pos awGood] at h2
  have hget : getV awV ⟨#[98]⟩ = some ⟨2, false, 1, ⟨#[]⟩, [], []⟩ := by
    unfold getV
    rw [if_pos ⟨rfl, awGood, by simp [awV, isK, posK, lessB, ByteArray.toList_eq, Op.bytesLess]⟩]
    simp [awV, posK, lessB, ByteArray.toList_eq, Op.bytesLess]
  rw [hget] at h3
  have h4 := qDg awT
  have h5 := qHc awT awT
  have h6 : sameB awV awV = true := by
    unfold sameB
    rw [awGood, (qEl 16 awV awV awGood).2 rfl]
    rfl
  rw [awGood] at h4
  rw [h6] at h5
  show hogsheadlaw15_awake.f k = _
  unfold hogsheadlaw15_awake.f
  rw [h1]
  simp only [Option.bind_some]
  simp only [awV] at h2 h3 h4 h5
  rw [h2]
  simp only [Option.bind_some]
  rw [h3]
  simp only [Option.bind_some]
  have ht := awText
  simp only [awV] at ht
  rw [if_pos ht, if_pos trivial]
  simp only [tup, Option.getD_some, Option.isSome_some]
  rw [if_pos trivial, if_pos trivial, h4]
  simp only [Option.bind_some]
  rw [if_pos trivial, h5]
  rfl
theorem qEw {k : Nat} {r : Bool} (h : hogsheadlaw15_awake.f k = some r) : r = true := by
  obtain ⟨K, hK⟩ := qC1
  have h1 := hK (k + K) (by omega)
  have h2 := qG3 (g := fun k => hogsheadlaw15_awake.f k) (fun k => hogsheadlaw15_awake.mono k) (show k ≤ k + K by omega) h
  simp only at h1 h2
  rw [h1] at h2
  exact (Option.some.inj h2).symm
theorem hogsheadlaw15_awake.calls (k : Nat) (r : Bool) (w : World) (hT : Aside0 (Tabs w)) (h : hogsheadlaw15_awake.f k = some r) :
    Calls Tryd.prog 15 #[] w fun e w' => e = .returned (.bool r) ∧ Below w.heap.size w w' := hogsheadlaw15_awake.calls_true k r w hT h ⟨qEw h⟩
end Go.Proofs.YtbnoihpooeombaaDoor.X

namespace Go.Proofs.YtbnoihpooeombaaDoor.P
open Go.Proofs.YtbnoihpooeombaaDoor.X
open Go.RowKit Go.Proofs.YtbnoihpooeombaaDoorW.PrintWords Go.Proofs.YtbnoihpooeombaaDoorW.PrintLast Go.Proofs.YtbnoihpooeombaaDoorW.PrintMore
attribute [local go_sem] qAr qAy
set_option linter.unusedVariables false
set_option linter.unusedSimpArgs false
mutual
def hogsheadlaw15_ValueQuotes.j0 : Nat → ByteArray → ByteArray → Bool → Option (Bool)
 | 0, _, _, _ => none
 | k + 1, x0, x1, x17 => if x17 = true then ((hogsheadlaw15_awake.f k).bind fun t371 => (some t371)) else ((value_Quote.f k x0).bind fun t372 => ((value_Quote.f k x1).bind fun t373 => (hogsheadlaw15_ValueQuotes.l0 k x0 x1 t372 t373 true 0)))
def hogsheadlaw15_ValueQuotes.l0 : Nat → ByteArray → ByteArray → ByteArray → ByteArray → Bool → Int → Option (Bool)
 | 0, _, _, _, _, _, _ => none
 | k + 1, x0, x1, x5, x6, x7, x8 => if x8 < (x0.size : Int) then (if x7 = true then (if 0 ≤ x8 then (if (bt x0 x8) ≥ 32 then (if (bt x0 x8) ≤ 126 then (if (bt x0 x8) = 34 then (hogsheadlaw15_ValueQuotes.l0 k x0 x1 x5 x6 false (wrap64 (x8 + 1))) else (hogsheadlaw15_ValueQuotes.l0 k x0 x1 x5 x6 ((bt x0 x8) != 92) (wrap64 (x8 + 1)))) else (hogsheadlaw15_ValueQuotes.l0 k x0 x1 x5 x6 false (wrap64 (x8 + 1)))) else (hogsheadlaw15_ValueQuotes.l0 k x0 x1 x5 x6 false (wrap64 (x8 + 1)))) else (none)) else (hogsheadlaw15_ValueQuotes.l0 k x0 x1 x5 x6 false (wrap64 (x8 + 1)))) else (hogsheadlaw15_ValueQuotes.l1 k x0 x1 x5 x6 x7 0)
def hogsheadlaw15_ValueQuotes.l1 : Nat → ByteArray → ByteArray → ByteArray → ByteArray → Bool → Int → Option (Bool)
 | 0, _, _, _, _, _, _ => none
 | k + 1, x0, x1, x5, x6, x7, x9 => if x9 < (x5.size : Int) then (if 0 ≤ x9 then (if (bt x5 x9) < 32 then (some false) else (if (bt x5 x9) > 126 then (some false) else (hogsheadlaw15_ValueQuotes.l1 k x0 x1 x5 x6 x7 (wrap64 (x9 + 1))))) else (none)) else (if ((x5.toList == x6.toList) == (x0.toList == x1.toList)) = true then (if (((x5.size : Int) == (wrap64 ((x0.size : Int) + 2))) == x7) = true then (if x7 = true then (if 1 + x0.size ≤ 9223372036854775807 then (if ((⟨#[34]⟩ : ByteArray) ++ x0).size + 1 ≤ 9223372036854775807 then (if x5.toList = (((⟨#[34]⟩ : ByteArray) ++ x0) ++ (⟨#[34]⟩ : ByteArray)).toList then ((hogsheadlaw15_awake.f k).bind fun t374 => (some t374)) else (some false)) else (none)) else (none)) else ((hogsheadlaw15_awake.f k).bind fun t375 => (some t375))) else (some false)) else (some false))
end
def hogsheadlaw15_ValueQuotes.f (k : Nat) (a0 : ByteArray) (a1 : ByteArray) : Option (Bool) := if (a0.size : Int) > 100 then (hogsheadlaw15_ValueQuotes.j0 k a0 a1 true) else (hogsheadlaw15_ValueQuotes.j0 k a0 a1 (decide ((a1.size : Int) > 100)))
end Go.Proofs.YtbnoihpooeombaaDoor.P

namespace Go.Proofs.YtbnoihpooeombaaDoor.P
open Go.Proofs.YtbnoihpooeombaaDoor.X
open Go.RowKit Go.Proofs.YtbnoihpooeombaaDoorW.PrintWords Go.Proofs.YtbnoihpooeombaaDoorW.PrintLast Go.Proofs.YtbnoihpooeombaaDoorW.PrintMore
attribute [local go_sem] qAr qAy
set_option linter.unusedVariables false
set_option linter.unusedSimpArgs false
def hogsheadlaw0_Low.f (a0 : Int) (a1 : Int) : Option (Int) := if (IntKind.u64.wrap (a1)) = 0 then (none) else (some (wrap64 (Int.tmod (IntKind.u64.wrap (a0)) (IntKind.u64.wrap (a1)))))
end Go.Proofs.YtbnoihpooeombaaDoor.P

namespace Go.Proofs.YtbnoihpooeombaaDoor.P
open Go.Proofs.YtbnoihpooeombaaDoor.X
open Go.RowKit Go.Proofs.YtbnoihpooeombaaDoorW.PrintWords Go.Proofs.YtbnoihpooeombaaDoorW.PrintLast Go.Proofs.YtbnoihpooeombaaDoorW.PrintMore
attribute [local go_sem] qAr qAy
set_option linter.unusedVariables false
set_option linter.unusedSimpArgs false
def hogsheadlaw15_ValueDeep.l0 : Nat → Int → Int → Int → Int → Bool → Int → ByteArray → List (S25) → Option (Bool)
 | 0, _, _, _, _, _, _, _, _ => none
 | k + 1, x0, x1, x6, x379000, x379001, x379002, x379003, x379004 => if x6 < x0 then (hogsheadlaw15_ValueDeep.l0 k x0 x1 (wrap64 (x6 + 1)) 4 false 0 (⟨#[]⟩ : ByteArray) (([(⟨x379000, x379001, x379002, x379003, x379004, ([] : List ByteArray)⟩ : S25)] : List (S25)))) else (if 0 ≤ x1 then (if (x1 : Int).toNat ≤ 3198579280802 then ((value_Lay.f k x379000 x379001 x379002 x379003 x379004 ([] : List ByteArray)).bind fun bt386 => ((value_May.f x379000 x379001 x379002 x379003 x379004 ([] : List ByteArray)).bind fun t388 => (if (t388 == (decide (x0 ≤ 16))) = true then (if ((bt386.2 == 0) == (decide (x0 ≤ 16))) = true then ((value_May.f 4 false 0 (⟨#[]⟩ : ByteArray) (List.replicate (x1 : Int).toNat z25) ([] : List ByteArray)).bind fun t389 => (if (t389 == (decide ((wrap64 (x1 + 1)) ≤ 4000))) = true then ((hogsheadlaw15_awake.f k).bind fun t390 => (some t390)) else (some false))) else (some false)) else (some false)))) else (none)) else (none))
def hogsheadlaw15_ValueDeep.f (k : Nat) (a0 : Int) (a1 : Int) : Option (Bool) := (hogsheadlaw0_Low.f a0 20).bind fun t376 => ((hogsheadlaw0_Low.f a1 4010).bind fun t377 => (hogsheadlaw15_ValueDeep.l0 k (wrap64 (1 + t376)) t377 1 0 false 0 (⟨#[]⟩ : ByteArray) ([] : List (S25))))
end Go.Proofs.YtbnoihpooeombaaDoor.P

namespace Go.Proofs.YtbnoihpooeombaaDoor.X
open Go.RowKit Go.Proofs.YtbnoihpooeombaaDoorW.PrintWords Go.Proofs.YtbnoihpooeombaaDoor.P
set_option linter.unusedVariables false
set_option linter.unusedSimpArgs false
theorem qEh : (⟨#[]⟩ : ByteArray).size = 0 := rfl
end Go.Proofs.YtbnoihpooeombaaDoor.X

namespace Go.Proofs.YtbnoihpooeombaaDoor.P
open Go.Proofs.YtbnoihpooeombaaDoor.X
open Go.RowKit Go.Proofs.YtbnoihpooeombaaDoorW.PrintWords Go.Proofs.YtbnoihpooeombaaDoorW.PrintLast Go.Proofs.YtbnoihpooeombaaDoorW.PrintMore
attribute [local go_sem] qAr qAy
set_option linter.unusedVariables false
set_option linter.unusedSimpArgs false
mutual
def hogsheadlaw15_great.l0 : Nat → List (S25) → Int → Int → Option (Bool)
 | 0, _, _, _ => none
 | k + 1, x0, x3, x4 => if x4 < (x0.length : Int) then (hogsheadlaw15_great.j1 k x0 x3 x4 (decide ((x0.length : Int) ≤ 12))) else (hogsheadlaw15_great.j1 k x0 x3 x4 false)
def hogsheadlaw15_great.j1 : Nat → List (S25) → Int → Int → Bool → Option (Bool)
 | 0, _, _, _, _ => none
 | k + 1, x0, x3, x4, x13 => if x13 = true then (if 0 ≤ x4 then (if x4 < (x0.length : Int) then ((hogsheadlaw0_GreatValue.f k ((rd_T25 x0 x4).f0) ((rd_T25 x0 x4).f1) ((rd_T25 x0 x4).f2) ((rd_T25 x0 x4).f3) ((rd_T25 x0 x4).f4) ((rd_T25 x0 x4).f5) 60).bind fun t290 => (if t290 = true then (some true) else (hogsheadlaw15_great.l0 k x0 (wrap64 (x3 + 1)) (wrap64 (x4 + 1))))) else (none)) else (none)) else (some (x3 != (x0.length : Int)))
end
def hogsheadlaw15_great.f (k : Nat) (l0 : List (S25)) : Option (Bool) := hogsheadlaw15_great.l0 k l0 0 0
set_option maxHeartbeats 8000000 in
set_option maxRecDepth 100000 in
theorem hogsheadlaw15_great.calls (k : Nat) (A0 : Option Addr) (c0 : Nat) (l0 : List (S25)) (r : Bool) (w : World) (hr0 : Kd.C k25 w A0 l0.length l0) (hc0 : l0.length ≤ c0) (h : hogsheadlaw15_great.f k l0 = some r) :
  Calls Tryd.prog 29 #[.slice A0 l0.length c0] w fun e w' => e = .returned (.bool r) ∧ Below w.heap.size w w' := by
 have hu25 := Tryd.underlying25
 have HR0 := Aside0.mk hr0
 have HC0 := Aside0.mk hc0
 clear hr0 hc0
 have HB := Aside0.mk (Below.refl w.heap.size w)
 have H : (hogsheadlaw15_great.l0 k l0 0 0) = some r := h
 clear h
 have H' := Aside0.mk H
 clear H
 go_enter Tryd.func29, Tryd.ntmps29
 go_wp2
 go_loopg [3, 4] k (fun kq v3 v4 w' => ∃ (x3_1 : Int) (x4_1 : Int), v3 = .int .i64 x3_1 ∧ v4 = .int .i64 x4_1 ∧ Aside0 (hogsheadlaw15_great.l0 kq l0 x3_1 x4_1 = some r) ∧ Aside0 (kq ≤ k) ∧ Aside0 (Below w.heap.size w w'))
 case atStart => exact ⟨(0), (0), (by first | rfl | (simp; done) | (simp [*]; done) | exact congrArg Value.bool (nil_ne _) | exact congrArg Value.bool (nil_eq _) | exact congrArg Value.bool (nil_ne' _)), (by first | rfl | (simp; done) | (simp [*]; done) | exact congrArg Value.bool (nil_ne _) | exact congrArg Value.bool (nil_eq _) | exact congrArg Value.bool (nil_ne' _)), H', ⟨Nat.le_refl _⟩, ⟨by repeat (first | (with_reducible first | exact HB.out | apply qAd | apply qAb | apply qAe) | exact HB.out)⟩⟩
 case round =>
  clear H'
  obtain ⟨x3_1, x4_1, rfl, rfl, HA, HK1, HB⟩ := hrel
  cases gk with
  | zero => exact absurd HA.out (by simp [hogsheadlaw15_great.l0])
  | succ k1 =>
   have H := HA.out
   clear HA
   simp only [hogsheadlaw15_great.l0] at H
   have HC2 := Aside0.mk H
   clear H
   go_upto_region 3 with (fail)
   go_cut [13] (fun v13 wc => ∃ (kq : Nat) (x13_1 : Bool), v13 = .bool x13_1 ∧ Aside0 (hogsheadlaw15_great.j1 kq l0 x3_1 x4_1 x13_1 = some r) ∧ Aside0 (kq ≤ k1) ∧ Aside0 (Below w.heap.size w wc))
   case first =>
    have H := HC2.out
    clear HC2
    by_cases c3 : x4_1 < (l0.length : Int)
    ·rw [if_pos c3] at H
     have c3b0 : decide (x4_1 < (l0.length : Int)) = true := decide_eq_true c3
     clear c3
     (first | rw [c3b0] | (simp only [i64_w, i32_w]; rw [c3b0]) | skip)
     have H' := Aside0.mk H
     clear H
     go_wp2
     go_meet
     case rel => exact ⟨_, (decide ((l0.length : Int) ≤ 12)), (by first | rfl | (simp; done) | (simp [*]; done) | exact congrArg Value.bool (nil_ne _) | exact congrArg Value.bool (nil_eq _) | exact congrArg Value.bool (nil_ne' _)), H', ⟨by have := HK1.out; first | omega | exact Nat.le_refl _⟩, ⟨by repeat (first | (with_reducible first | exact HB.out | apply qAd | apply qAb | apply qAe) | exact HB.out)⟩⟩
    ·rw [if_neg c3] at H
     have c3b0 : decide (x4_1 < (l0.length : Int)) = false := decide_eq_false c3
     clear c3
     (first | rw [c3b0] | (simp only [i64_w, i32_w]; rw [c3b0]) | skip)
     have H' := Aside0.mk H
     clear H
     go_wp2
     go_meet
     case rel => exact ⟨_, (false), (by first | rfl | (simp; done) | (simp [*]; done) | exact congrArg Value.bool (nil_ne _) | exact congrArg Value.bool (nil_eq _) | exact congrArg Value.bool (nil_ne' _)), H', ⟨by have := HK1.out; first | omega | exact Nat.le_refl _⟩, ⟨by repeat (first | (with_reducible first | exact HB.out | apply qAd | apply qAb | apply qAe) | exact HB.out)⟩⟩
   case rest =>
    clear HC2
    try clear c2
    try clear p2
    try clear c3
    try clear c3b0
    obtain ⟨kq, x13_1, rfl, HA, HJ1, HB⟩ := hcut
    cases kq with
    | zero => exact absurd HA.out (by simp [hogsheadlaw15_great.j1])
    | succ kj1 =>
     have H := HA.out
     clear HA
     simp only [hogsheadlaw15_great.j1] at H
     by_cases c4 : x13_1 = true
     ·subst c4
      have H1 : (if 0 ≤ x4_1 then (if x4_1 < (l0.length : Int) then ((hogsheadlaw0_GreatValue.f kj1 ((rd_T25 l0 x4_1).f0) ((rd_T25 l0 x4_1).f1) ((rd_T25 l0 x4_1).f2) ((rd_T25 l0 x4_1).f3) ((rd_T25 l0 x4_1).f4) ((rd_T25 l0 x4_1).f5) 60).bind fun t290 => (if t290 = true then (some true) else (hogsheadlaw15_great.l0 kj1 l0 (wrap64 (x3_1 + 1)) (wrap64 (x4_1 + 1))))) else (none)) else (none)) = some r := by rw [if_pos rfl] at H; exact H
      clear H
      have H := H1
      clear H1
      by_cases c5 : 0 ≤ x4_1
      ·rw [if_pos c5] at H
       have c5b0 : decide (0 ≤ x4_1) = true := decide_eq_true c5
       clear c5
       by_cases c6 : x4_1 < (l0.length : Int)
       ·rw [if_pos c6] at H
        have c6b0 : decide (x4_1 < (l0.length : Int)) = true := decide_eq_true c6
        clear c6
        replace H := Option.bind_eq_some_iff.mp H
        obtain ⟨t290, A70, H⟩ := H
        replace H : (if t290 = true then (some true) else (hogsheadlaw15_great.l0 kj1 l0 (wrap64 (x3_1 + 1)) (wrap64 (x4_1 + 1)))) = some r := H
        have A7 := Aside0.mk A70
        clear A70
        by_cases c8 : t290 = true
        ·subst c8
         have H1 : (some true) = some r := by rw [if_pos rfl] at H; exact H
         clear H
         have H := H1
         clear H1
         obtain rfl := Option.some.inj H
         have p289 : 0 ≤ (x4_1 : Int) := of_decide_eq_true (by first | (with_reducible assumption) | assumption)
         have q289 : x4_1 < (l0.length : Int) := of_decide_eq_true (by first | (with_reducible assumption) | assumption)
         obtain ⟨ad289, A289_4, c289_4, A289_5, c289_5, e289, hx289_0, hx289_1, hx289_2, hx289_3, hx289_4, hx289_5, hl289_4, hi289_4, hl289_5, hi289_5⟩ := at_T25 HR0.out x4_1 p289 q289
         cases e289
         replace hx289_0 := (HB.out.cell (World.block_lt_of_cell? w _ hx289_0)).trans hx289_0
         replace hx289_1 := (HB.out.cell (World.block_lt_of_cell? w _ hx289_1)).trans hx289_1
         replace hx289_2 := (HB.out.cell (World.block_lt_of_cell? w _ hx289_2)).trans hx289_2
         replace hx289_3 := (HB.out.cell (World.block_lt_of_cell? w _ hx289_3)).trans hx289_3
         replace hx289_4 := (HB.out.cell (World.block_lt_of_cell? w _ hx289_4)).trans hx289_4
         replace hx289_5 := (HB.out.cell (World.block_lt_of_cell? w _ hx289_5)).trans hx289_5
         have HR289_4 := Aside0.mk hi289_4
         have HC289_4 := Aside0.mk hl289_4
         clear hi289_4 hl289_4
         have HR289_5 := Aside0.mk hi289_5
         have HC289_5 := Aside0.mk hl289_5
         clear hi289_5 hl289_5
         replace p289 := eq_true p289
         replace q289 := eq_true q289
         go_wp2_with (first | ((with_reducible refine qAn (f := 14) rfl ?_); refine goesL_ (some 20) rfl rfl Tryd.func14 (by kernel_rfl) rfl #[.agg #[.int .i64 ((rd_T25 l0 x4_1).f0), .bool ((rd_T25 l0 x4_1).f1), .int .i64 ((rd_T25 l0 x4_1).f2), .string ((rd_T25 l0 x4_1).f3), .slice A289_4 ((rd_T25 l0 x4_1).f4).length c289_4, .slice A289_5 ((rd_T25 l0 x4_1).f5).length c289_5], .int .i64 60] rfl (by (try simp only [List.map_toArray, List.map_cons, List.map_nil]); first | done | rfl | (simp only [List.length_drop, List.length_take]; rfl)) ?_; (with_reducible refine (hogsheadlaw0_GreatValue.calls kj1 ((rd_T25 l0 x4_1).f0) ((rd_T25 l0 x4_1).f1) ((rd_T25 l0 x4_1).f2) ((rd_T25 l0 x4_1).f3) _ _ ((rd_T25 l0 x4_1).f4) _ _ ((rd_T25 l0 x4_1).f5) 60 true _ ?side1 ?side2 ?side3 ?side4 A7.out).mono ?_); (case side1 => repeat (first | exact (Kd.C_below HR289_4.out HB.out) | (with_reducible refine Kd.C_alloc ?_ _) | (with_reducible refine Kd.C_drewN ?_ _) | (with_reducible refine Kd.C_drew ?_))); (case side2 => exact HC289_4.out); (case side3 => repeat (first | exact (Kd.C_below HR289_5.out HB.out) | (with_reducible refine Kd.C_alloc ?_ _) | (with_reducible refine Kd.C_drewN ?_ _) | (with_reducible refine Kd.C_drew ?_))); (case side4 => exact HC289_5.out); rintro e w9 ⟨rfl, hb⟩; refine ⟨_, rfl, ?_⟩; have n0_ := Aside0.mk (qAi (by repeat (first | (with_reducible first | exact HB.out | apply qAd | apply qAb | apply qAe) | exact HB.out)) hb); clear HB; have HB := n0_; clear n0_; (try clear hb); (try clear hb2); (try clear hk); (try clear hi)))
         go_ret
         exact ⟨by first | rfl | (simp [qAm, qAl] <;> rfl) | (simp [*, qAm, qAl] <;> rfl), by repeat (first | (with_reducible first | exact HB.out | apply qAd | apply qAb | apply qAe) | exact HB.out)⟩
        ·replace c8 := Bool.eq_false_iff.mpr c8
         subst c8
         have H1 : (hogsheadlaw15_great.l0 kj1 l0 (wrap64 (x3_1 + 1)) (wrap64 (x4_1 + 1))) = some r := by rw [if_neg (show ¬ (false = true) by decide)] at H; exact H
         clear H
         have H := H1
         clear H1
         have H' := Aside0.mk H
         clear H
         have p289 : 0 ≤ (x4_1 : Int) := of_decide_eq_true (by first | (with_reducible assumption) | assumption)
         have q289 : x4_1 < (l0.length : Int) := of_decide_eq_true (by first | (with_reducible assumption) | assumption)
         obtain ⟨ad289, A289_4, c289_4, A289_5, c289_5, e289, hx289_0, hx289_1, hx289_2, hx289_3, hx289_4, hx289_5, hl289_4, hi289_4, hl289_5, hi289_5⟩ := at_T25 HR0.out x4_1 p289 q289
         cases e289
         replace hx289_0 := (HB.out.cell (World.block_lt_of_cell? w _ hx289_0)).trans hx289_0
         replace hx289_1 := (HB.out.cell (World.block_lt_of_cell? w _ hx289_1)).trans hx289_1
         replace hx289_2 := (HB.out.cell (World.block_lt_of_cell? w _ hx289_2)).trans hx289_2
         replace hx289_3 := (HB.out.cell (World.block_lt_of_cell? w _ hx289_3)).trans hx289_3
         replace hx289_4 := (HB.out.cell (World.block_lt_of_cell? w _ hx289_4)).trans hx289_4
         replace hx289_5 := (HB.out.cell (World.block_lt_of_cell? w _ hx289_5)).trans hx289_5
         have HR289_4 := Aside0.mk hi289_4
         have HC289_4 := Aside0.mk hl289_4
         clear hi289_4 hl289_4
         have HR289_5 := Aside0.mk hi289_5
         have HC289_5 := Aside0.mk hl289_5
         clear hi289_5 hl289_5
         replace p289 := eq_true p289
         replace q289 := eq_true q289
         go_wp2_with (first | ((with_reducible refine qAn (f := 14) rfl ?_); refine goesL_ (some 20) rfl rfl Tryd.func14 (by kernel_rfl) rfl #[.agg #[.int .i64 ((rd_T25 l0 x4_1).f0), .bool ((rd_T25 l0 x4_1).f1), .int .i64 ((rd_T25 l0 x4_1).f2), .string ((rd_T25 l0 x4_1).f3), .slice A289_4 ((rd_T25 l0 x4_1).f4).length c289_4, .slice A289_5 ((rd_T25 l0 x4_1).f5).length c289_5], .int .i64 60] rfl (by (try simp only [List.map_toArray, List.map_cons, List.map_nil]); first | done | rfl | (simp only [List.length_drop, List.length_take]; rfl)) ?_; (with_reducible refine (hogsheadlaw0_GreatValue.calls kj1 ((rd_T25 l0 x4_1).f0) ((rd_T25 l0 x4_1).f1) ((rd_T25 l0 x4_1).f2) ((rd_T25 l0 x4_1).f3) _ _ ((rd_T25 l0 x4_1).f4) _ _ ((rd_T25 l0 x4_1).f5) 60 false _ ?side1 ?side2 ?side3 ?side4 A7.out).mono ?_); (case side1 => repeat (first | exact (Kd.C_below HR289_4.out HB.out) | (with_reducible refine Kd.C_alloc ?_ _) | (with_reducible refine Kd.C_drewN ?_ _) | (with_reducible refine Kd.C_drew ?_))); (case side2 => exact HC289_4.out); (case side3 => repeat (first | exact (Kd.C_below HR289_5.out HB.out) | (with_reducible refine Kd.C_alloc ?_ _) | (with_reducible refine Kd.C_drewN ?_ _) | (with_reducible refine Kd.C_drew ?_))); (case side4 => exact HC289_5.out); rintro e w10 ⟨rfl, hb⟩; refine ⟨_, rfl, ?_⟩; have n0_ := Aside0.mk (qAi (by repeat (first | (with_reducible first | exact HB.out | apply qAd | apply qAb | apply qAe) | exact HB.out)) hb); clear HB; have HB := n0_; clear n0_; (try clear hb); (try clear hb2); (try clear hk); (try clear hi)))
         go_roundg kj1
         case measure => have := HK1.out; have := HJ1.out; omega
         case rel => exact ⟨(wrap64 (x3_1 + 1)), (wrap64 (x4_1 + 1)), (by first | rfl | (simp; done) | (simp [*]; done) | exact congrArg Value.bool (nil_ne _) | exact congrArg Value.bool (nil_eq _) | exact congrArg Value.bool (nil_ne' _)), (by first | rfl | (simp; done) | (simp [*]; done) | exact congrArg Value.bool (nil_ne _) | exact congrArg Value.bool (nil_eq _) | exact congrArg Value.bool (nil_ne' _)), H', ⟨by have := HK1.out; have := HJ1.out; omega⟩, ⟨by repeat (first | (with_reducible first | exact HB.out | apply qAd | apply qAb | apply qAe) | exact HB.out)⟩⟩
       ·rw [if_neg c6] at H
        exact absurd H (by simp)
      ·rw [if_neg c5] at H
       exact absurd H (by simp)
     ·replace c4 := Bool.eq_false_iff.mpr c4
      subst c4
      have H1 : (some (x3_1 != (l0.length : Int))) = some r := by rw [if_neg (show ¬ (false = true) by decide)] at H; exact H
      clear H
      have H := H1
      clear H1
      obtain rfl := Option.some.inj H
      go_wp2
      go_ret
      exact ⟨by first | rfl | (simp [qAm, qAl] <;> rfl) | (simp [*, qAm, qAl] <;> rfl), by repeat (first | (with_reducible first | exact HB.out | apply qAd | apply qAb | apply qAe) | exact HB.out)⟩
end Go.Proofs.YtbnoihpooeombaaDoor.P

namespace Go.Proofs.YtbnoihpooeombaaDoor.X
open Go.RowKit Go.Proofs.YtbnoihpooeombaaDoorW.PrintWords Go.Proofs.YtbnoihpooeombaaDoor.P
set_option linter.unusedVariables false
set_option linter.unusedSimpArgs false
theorem qHn (vs : List S25) (hn : vs.length ≤ 12) : ∀ (j i : Nat), vs.length - i = j → i ≤ vs.length → ∃ b, Ev (fun k => hogsheadlaw15_great.l0 k vs (i : Int) (i : Int)) b ∧ (b = false → ∀ v ∈ vs.drop i, Small 60 v) := by
  intro j
  induction j with
  | zero =>
    intro i hj hi
    refine ⟨false, ⟨2, fun k hk => ?_⟩, fun _ v hv => ?_⟩
    · obtain ⟨k, rfl⟩ : ∃ m, k = m + 2 := ⟨k - 2, by omega⟩
      simp only [hogsheadlaw15_great.l0]
      rw [if_neg (by omega)]
      simp only [hogsheadlaw15_great.j1]
      rw [if_neg (by decide)]
      have : i = vs.length := by omega
      subst this
      simp
    · rw [List.drop_eq_nil_of_le (by omega)] at hv; cases hv
  | succ j ih =>
    intro i hj hi
    have hlt : i < vs.length := by omega
    obtain ⟨g, ⟨K1, h1⟩, hg⟩ := qHo vs[i] 60 (by omega)
    obtain ⟨b, ⟨K2, h2⟩, hb⟩ := ih (i + 1) (by omega) (by omega)
    cases g with
    | true =>
      refine ⟨true, ⟨K1 + 2, fun k hk => ?_⟩, fun h => by cases h⟩
      obtain ⟨k, rfl⟩ : ∃ m, k = m + 2 := ⟨k - 2, by omega⟩
      have h1 := h1 k (by omega)
      simp only at h1
      simp only [hogsheadlaw15_great.l0]
      rw [if_pos (by omega)]
      simp only [hogsheadlaw15_great.j1]
      rw [if_pos (decide_eq_true (by omega)), if_pos (by omega), if_pos (by omega), qB2 vs i hlt, show (60 : Int) = ((60 : Nat) : Int) from rfl, h1]
      rfl
    | false =>
      refine ⟨b, ⟨K1 + K2 + 2, fun k hk => ?_⟩, fun h v hv => ?_⟩
      · obtain ⟨k, rfl⟩ : ∃ m, k = m + 2 := ⟨k - 2, by omega⟩
        have h1 := h1 k (by omega)
        have h2 := h2 k (by omega)
        simp only at h1 h2
        have E3 : Aside0 (wrap64 ((i : Int) + 1) = ((i + 1 : Nat) : Int)) := ⟨qBm (by omega) (by omega)⟩
        simp only [hogsheadlaw15_great.l0]
        rw [if_pos (by omega)]
        simp only [hogsheadlaw15_great.j1]
        rw [if_pos (decide_eq_true (by omega)), if_pos (by omega), if_pos (by omega), qB2 vs i hlt, show (60 : Int) = ((60 : Nat) : Int) from rfl, h1]
        simp only [Option.bind_some]
        rw [if_neg (by decide), E3.out]
        exact h2
      · rw [List.drop_eq_getElem_cons hlt] at hv
        rcases List.mem_cons.1 hv with rfl | hv
        · exact hg rfl
        · exact hb h v hv
theorem qF4 (vs : List S25) : ∃ b, Ev (fun k => hogsheadlaw15_great.f k vs) b ∧ (b = false → vs.length ≤ 12 ∧ ∀ v ∈ vs, Small 60 v) := by
  by_cases hn : vs.length ≤ 12
  · obtain ⟨b, h1, h2⟩ := qHn vs hn vs.length 0 (by omega) (by omega)
    rw [List.drop_zero] at h2
    exact ⟨b, h1, fun h => ⟨hn, h2 h⟩⟩
  · refine ⟨true, ⟨2, fun k hk => ?_⟩, fun h => by cases h⟩
    obtain ⟨k, rfl⟩ : ∃ m, k = m + 2 := ⟨k - 2, by omega⟩
    show hogsheadlaw15_great.l0 _ vs 0 0 = _
    simp only [hogsheadlaw15_great.l0]
    rw [if_pos (by omega)]
    simp only [hogsheadlaw15_great.j1]
    rw [if_neg (by rw [decide_eq_true_eq]; omega)]
    congr 1
    rw [bne_iff_ne]
    omega
theorem qF9 : ∀ (d : Nat) (x : S25), goodV d x = true → textI (d + 1) x = textI d x
  | 0, x, h => by simp [goodV] at h
  | d + 1, x, h => by
    have hg := (qB7 h).2
    have ih : ∀ y ∈ x.f4, textI (d + 1) y = textI d y := fun y hy => qF9 d y (hg y hy)
    have hp : ∀ (o : Bool) (l : List S25) (ks : List ByteArray), (∀ y ∈ l, textI (d + 1) y = textI d y) → qAq (textI (d + 1)) o l ks = qAq (textI d) o l ks := by
      intro o l
      induction l with
      | nil => intro ks _; simp [qAq]
      | cons y l ihl =>
        intro ks hy
        have h1 := hy y (List.mem_cons_self ..)
        cases ks with
        | nil => simp [qAq, h1, ihl [] (fun z hz => hy z (List.mem_cons_of_mem _ hz))]
        | cons k ks => simp [qAq, h1, ihl ks (fun z hz => hy z (List.mem_cons_of_mem _ hz))]
    rw [textI, textI, hp true x.f4 x.f5 ih, hp false x.f4 x.f5 ih]
def keyK (i : Nat) : ByteArray := (⟨#[107]⟩ : ByteArray) ++ (⟨#[48, 49, 50, 51, 52, 53, 54, 55]⟩ : ByteArray).extract i (i + 1)
theorem qCm : ∀ i : Nat, i < 8 → keyK i = ⟨#[107, UInt8.ofNat (48 + i)]⟩ := by decide +kernel
def keysK (n : Nat) : List ByteArray := (List.range n).map keyK
theorem qDi (n : Nat) : (keysK n).length = n := by simp [keysK]
theorem qD1 (n : Nat) : keysK (n + 1) = keysK n ++ [keyK n] := by simp [keysK, List.range_succ]
theorem qD2 (n : Nat) (h : n ≤ 8) : ∀ s ∈ keysK n, s.size = 2 := by
  intro s hs
  unfold keysK at hs
  obtain ⟨i, hi, rfl⟩ := List.mem_map.1 hs
  have hi := List.mem_range.1 hi
  rw [qCm i (by omega)]
  rfl
theorem qC9 : ∀ (l : List ByteArray) (a : ByteArray), qAx l = true → (∀ s ∈ l, lessB s a = true) → qAx (l ++ [a]) = true
  | [], a, _, _ => rfl
  | b :: l, a, h, ha => by
    obtain ⟨h1, h2⟩ := qBr h
    rw [List.cons_append]
    refine qDa (qC9 l a h1 (fun s hs => ha s (List.mem_cons_of_mem _ hs))) (fun s hs => ?_)
    rcases List.mem_append.1 hs with hs | hs
    · exact h2 s hs
    · have : s = a := by simpa using hs
      rw [this]; exact ha b (List.mem_cons_self ..)
theorem qGt (i j : Nat) (h : i < j) (hj : j < 8) : lessB (keyK i) (keyK j) = true := by
  rw [qCm i (by omega), qCm j hj]
  have e : ∀ a b : UInt8, (⟨#[a, b]⟩ : ByteArray).toList = [a, b] := fun a b => by rw [ByteArray.toList_eq]
  rw [lessB, e, e]
  have : ∀ i j : Nat, j < 8 → i < j → Op.bytesLess [107, UInt8.ofNat (48 + i)] [107, UInt8.ofNat (48 + j)] = true := by
    intro i j hj hij
    have h : ∀ j : Nat, j < 8 → ∀ i : Nat, i < 8 → i < j → Op.bytesLess [107, UInt8.ofNat (48 + i)] [107, UInt8.ofNat (48 + j)] = true := by decide +kernel
    exact h j hj i (by omega) hij
  exact this i j hj h
theorem qC3 : ∀ n, n ≤ 8 → qAx (keysK n) = true
  | 0, _ => rfl
  | n + 1, h => by
    rw [qD1]
    refine qC9 _ _ (qC3 n (by omega)) (fun s hs => ?_)
    unfold keysK at hs
    obtain ⟨i, hi, rfl⟩ := List.mem_map.1 hs
    exact qGt i n (List.mem_range.1 hi) (by omega)
theorem tw_all {α : Type} (p : α → Bool) : ∀ l : List α, (∀ x ∈ l, p x = true) → l.takeWhile p = l
  | [], _ => rfl
  | a :: l, h => by rw [List.takeWhile_cons_of_pos (h a (List.mem_cons_self ..)), tw_all p l (fun x hx => h x (List.mem_cons_of_mem _ hx))]
theorem qHg {K : List ByteArray} {key : ByteArray} (h : ∀ s ∈ K, lessB s key = true) : posK K key = K.length ∧ isK K key = false := by
  have hp : posK K key = K.length := by
    unfold posK
    rw [tw_all _ K (fun s hs => h s hs)]
  refine ⟨hp, decide_eq_false (fun ⟨h1, _⟩ => ?_)⟩
  rw [hp] at h1
  omega
theorem qDw : ∀ (K : List ByteArray) (a : ByteArray) (l : List ByteArray), qAx (K ++ a :: l) = true → ∀ s ∈ K, lessB s a = true
  | [], a, l, _, s, hs => by cases hs
  | b :: K, a, l, h, s, hs => by
    obtain ⟨h1, h2⟩ := qBr h
    rcases List.mem_cons.1 hs with rfl | hs
    · exact h2 a (List.mem_append_right _ (List.mem_cons_self ..))
    · exact qDw K a l h1 s hs
theorem qD0 : ∀ (ks : List ByteArray) (vs : List S25) (K : List ByteArray) (V : List S25), qAx (K ++ ks) = true → ks.length = vs.length → K.length = V.length → ofP ks vs K V = (K ++ ks, V ++ vs)
  | [], [], K, V, _, _, _ => by simp [ofP]
  | [], _ :: _, K, V, _, h, _ => by simp at h
  | _ :: _, [], K, V, _, h, _ => by simp at h
  | k :: ks, v :: vs, K, V, hr, hl, hv => by
    obtain ⟨h1, h2⟩ := qHg (qDw K k ks hr)
    rw [ofP, if_neg (by rw [h2]; decide), h1, List.take_of_length_le (Nat.le_refl _), List.drop_of_length_le (Nat.le_refl _), hv, List.take_of_length_le (Nat.le_refl _), List.drop_of_length_le (Nat.le_refl _)]
    rw [qD0 ks vs (K ++ [k]) (V ++ [v]) (by simpa using hr) (by simpa using hl) (by simp [hv])]
    simp
theorem qHx {x : S25} (h : Small 60 x) : T 60 4000 x := ⟨h.1, by have := h.2; omega⟩
end Go.Proofs.YtbnoihpooeombaaDoor.X
