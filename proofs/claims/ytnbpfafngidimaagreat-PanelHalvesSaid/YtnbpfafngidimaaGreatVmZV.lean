/- A call of ForceNames returns true and leaves alone what was there; no conditions. -/
import Derived.Test.YtnbpfafngidimaaGreatVmZU
namespace Go.Vm
open Go.Proofs
set_option linter.unusedVariables false
set_option maxRecDepth 1000000
theorem h67 : Has Tryz.prog 67 := ⟨Tryz.f67, _, Tryz.func67, by kernel_rfl, rfl⟩
theorem lifts_eval : evFn (cxt hot) 1000 67 [] some = some (.bool true) := by kernel_rfl
theorem k67 : SumOk Tryz.prog 67 sTrue := fun R args k r hr => by
  unfold sTrue at hr; split at hr
  · obtain ⟨v, h1, h2, h3⟩ := evFn_sound (cxt_ok hot_ok) zm_ok lifts_eval rfl
    cases h1
    exact ⟨rfl, _, hr, h2, h3⟩
  · cases hr
theorem force_eval : evFn (cxm Tryz.prog ((67, sTrue) :: hot)) 1000 11 [] some = some (.bool true) := by kernel_rfl
theorem force_calls (w : World) : Calls Tryz.prog 11 ⟨[]⟩ w fun e w' => e = .returned (.bool true) ∧ RowKit.Below w.heap.size w w' := by
  obtain ⟨v, h1, _, h2⟩ := evFn_sound (cxm_ok (.cons k67 h67 hot_ok)) zm_ok force_eval rfl
  cases h1
  exact h2 w
end Go.Vm
