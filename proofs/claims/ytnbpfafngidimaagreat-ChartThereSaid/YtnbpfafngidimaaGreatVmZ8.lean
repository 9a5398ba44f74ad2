/- The program's ChartThree computes what the Lean function tells; no conditions. -/
import Derived.Test.YtnbpfafngidimaaGreatVmZ7
namespace Go.Vm
open Go.Proofs
set_option linter.unusedVariables false
set_option maxRecDepth 1000000
theorem z_threeLaw (up : KGB) (of_ : KGC) (three : KTTM) (at_ : KMZ) (near : KCCFB) (R : Type) f g (k : Value → Option R) :
   evFn (cx Tryz.prog [(14, sTrue), (24, sUp up), (25, sOf of_), (29, sTTM three), (26, sMZ at_), (28, sCCFB near)]) 80 5 [iv f, iv g] k = threeLaw up of_ three at_ near R f g fun t => k (.bool t) := by kernel_rfl
end Go.Vm
