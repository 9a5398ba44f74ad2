/- The tests ahead of FoilNames are what is told of them; no conditions. -/
import Derived.Test.YtnbpfafngidimaaGreatVmZF0
namespace Go.Vm
open Go.Proofs
set_option linter.unusedVariables false
set_option maxRecDepth 1000000

theorem h72 : Has Tryz.prog 72 := ⟨Tryz.f72, _, Tryz.func72, by kernel_rfl, rfl⟩
theorem foil_alive : evFn (cxm Tryz.prog hot) 1000 72 [] some = some (.bool true) := by kernel_rfl
theorem k72 : SumOk Tryz.prog 72 sTrue := fun R args k r hr => by
  unfold sTrue at hr; split at hr
  · obtain ⟨v, h1, h2, h3⟩ := evFn_sound (cxm_ok hot_ok) zm_ok foil_alive rfl
    cases h1
    exact ⟨rfl, _, hr, h2, h3⟩
  · cases hr
end Go.Vm
