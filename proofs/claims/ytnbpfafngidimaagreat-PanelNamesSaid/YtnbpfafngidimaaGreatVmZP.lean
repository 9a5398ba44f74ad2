/- A call of PanelNames returns true and leaves alone what was there; no conditions. -/
import Derived.Test.YtnbpfafngidimaaGreatVmZA
namespace Go.Vm
open Go.Proofs
set_option linter.unusedVariables false
set_option maxRecDepth 1000000

theorem panel_eval : evFn (cxm Tryz.prog ((47, sTrue) :: hot)) 1000 9 [] some = some (.bool true) := by kernel_rfl

theorem panel_calls (w : World) : Calls Tryz.prog 9 ⟨[]⟩ w fun e w' => e = .returned (.bool true) ∧ RowKit.Below w.heap.size w w' := by
  obtain ⟨v, h1, _, h2⟩ := evFn_sound (cxm_ok (.cons k47 h47 hot_ok)) zm_ok panel_eval rfl
  cases h1
  exact h2 w
end Go.Vm
