/- What a row that lists the library's tables gives the walks, and a world in which they are laid. -/
import Derived.Test.YtidlgdpjcognpaaDoorXT
import Derived.Test.YtidlgdpjcognpaaDoorRows
import Derived.WalkKit
import Derived.ProofKit
import Derived.OpenShut
import Derived.ShutString
import Derived.SizedLaws
import Derived.Deep.DeepHandedRow
import Derived.Lib.LaidTab
import Derived.LaidMore
import Derived.Stop.Joined
import Derived.Test.YtidlgdpjcognpaaDoorWSized
import Derived.Test.YtidlgdpjcognpaaDoorShelf
namespace Go.Proofs.YtidlgdpjcognpaaDoor.X
open Go.RowKit Go.Proofs.YtidlgdpjcognpaaDoorW.PrintWords
set_option linter.unusedVariables false

theorem own : ownKnob Tryd.prog.godebug = none := by kernel_rfl
theorem laidOut : laidOutB Tryd.prog = true := by kernel_rfl
theorem laid_tail {P : Program} {W : World} {x : String × DataW Unit} {rest : List (String × DataW Unit)} (h : laidMet P (x :: rest) W) : laidMet P rest W := by
  obtain ⟨ps, hv, hn, hc⟩ := h
  obtain ⟨name, d⟩ := x
  obtain ⟨g, t, cs, fuel, p, q, hg, ht, hvar, hd, hr, rfl⟩ := hv
  exact ⟨q, hr, (List.nodup_append.1 hn).2.1, fun b off hm => hc b off (List.mem_append_right _ hm)⟩
def deB64 : List Int := [0, 1, 56, 2, 57, 49, 28, 3, 61, 58, 42, 50, 38, 29, 17, 4, 62, 47, 59, 36, 45, 43, 51, 22, 53, 39, 33, 30, 24, 18, 12, 5, 63, 55, 48, 27, 60, 41, 37, 16, 46, 35, 44, 21, 52, 32, 23, 11, 54, 26, 40, 15, 34, 20, 31, 10, 25, 14, 19, 9, 13, 8, 7, 6]
def laidList : List (String × DataW Unit) := [("math/bits.deBruijn32tab", Rows.laid_math_bits_deBruijn32tab), ("math/bits.deBruijn64tab", Rows.laid_math_bits_deBruijn64tab), ("internal/strconv.uint64pow10", Rows.laid_internal_strconv_uint64pow10)]
/-- The tables that a row lists, in the walks' words; the library's own variables have some number. -/
theorem tabs_of {W : World} (h : laidMetH Tryd.prog laidList W) (hsh : W.ShapedOpen Tryd.prog) : Tabs W := by
  have h0 : laidMet Tryd.prog laidList W := h
  have h1 := laid_tail h0
  have h2 := laid_tail h1
  have t64 : Lib.TabIs Tryd.prog W "math/bits.deBruijn64tab" .u8 deB64 :=
    Lib.tabIs_of_head (t := 101) (e := 5) (n := 64) (g := 3) (by kernel_rfl) (by kernel_rfl) Tryd.underlying101 Tryd.underlying5 (by kernel_rfl) (by kernel_rfl) h1
  have t10 : Lib.TabIs Tryd.prog W "internal/strconv.uint64pow10" .u64 Lib.pow10Tab :=
    Lib.tabIs_of_head (t := 91) (e := 23) (n := 20) (g := 0) (by kernel_rfl) (by kernel_rfl) Tryd.underlying91 Tryd.underlying23 (by kernel_rfl) (by kernel_rfl) h2
  exact ⟨t64.cell (g := 3) (by kernel_rfl) 15 (by decide), t64.cell (g := 3) (by kernel_rfl) 7 (by decide), t10, cell_of_shapedOpen_int (zero := #[.int .i64 0]) (t := 3) hsh (of_decide_eq_true (by kernel_rfl)) (by kernel_rfl) rfl (by kernel_rfl) (by kernel_rfl) Tryd.underlying3⟩
noncomputable def laidWorld (os : Os) : World := World.doorLaid Tryd.prog 400 os
end Go.Proofs.YtidlgdpjcognpaaDoor.X
