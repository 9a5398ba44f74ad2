/- The chapter's awake sentence of panels holds; no conditions. -/
import Derived.Test.YtnbpfafngidimaaGreatVmZH
namespace Go.Vm
open Go.Proofs
set_option linter.unusedVariables false
set_option maxRecDepth 1000000

theorem h47 : Has Tryz.prog 47 := ⟨Tryz.f47, _, Tryz.func47, by kernel_rfl, rfl⟩
theorem alive_eval : evFn (cxm Tryz.prog hot) 1000 47 [] some = some (.bool true) := by kernel_rfl
theorem k47 : SumOk Tryz.prog 47 sTrue := fun R args k r hr => by
  unfold sTrue at hr; split at hr
  · obtain ⟨v, h1, h2, h3⟩ := evFn_sound (cxm_ok hot_ok) zm_ok alive_eval rfl
    cases h1
    exact ⟨rfl, _, hr, h2, h3⟩
  · cases hr
end Go.Vm
