/- The walk of SumTurned, joined to its plain law. -/
import Derived.Test.YtidlgdpjcognpaaDoorXPU
namespace Go.Proofs.YtidlgdpjcognpaaDoor.X
open Go.RowKit Go.Proofs.YtidlgdpjcognpaaDoorW.PrintWords Go.Proofs.YtidlgdpjcognpaaDoor.P
set_option linter.unusedVariables false
theorem sumTurned_calls (A0 : Option Addr) (c0 : Nat) (l0 : List Int) (a1 a2 a3 a4 : Int) (w : World) (hT : Aside0 (Tabs w)) (hr0 : (Kd.int .u8).C w A0 l0.length l0) (hc0 : l0.length ≤ c0) (hl : ∀ x ∈ l0, 0 ≤ x ∧ x ≤ 255) (hm : l0.length ≤ 9223372036854775807) (h3 : 0 ≤ a3) (h3' : a3 < 18446744073709551616) (h4 : 0 ≤ a4) (h4' : a4 < 18446744073709551616) :
    Calls Tryd.prog 5 #[.slice A0 l0.length c0, .int .i64 a1, .int .i64 a2, .int .u64 a3, .int .u64 a4] w fun e w' => e = .returned (.bool true) ∧ Below w.heap.size w w' := by
  obtain ⟨K, hK⟩ := sumTurned_pure l0 a1 a2 a3 a4 hl hm h3 h3' h4 h4'
  exact hogsheadlaw6_SumTurned.calls K A0 c0 l0 a1 a2 a3 a4 true w hT hr0 hc0 (hK K (Nat.le_refl _))
end Go.Proofs.YtidlgdpjcognpaaDoor.X
