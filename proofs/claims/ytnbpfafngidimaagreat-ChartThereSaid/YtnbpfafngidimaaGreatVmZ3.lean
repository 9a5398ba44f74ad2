/- The program's ChartGroup computes what the Lean function tells; no conditions. -/
import Derived.Test.YtnbpfafngidimaaGreatVmKF
import Derived.Test.YtnbpfafngidimaaGreatVmZ1
namespace Go.Vm
open Go.Proofs
set_option linter.unusedVariables false
set_option maxRecDepth 1000000

def sTrue : Sum := fun R args k => match args with | [] => k (.bool true) | _ => none
theorem z_group (small : KFrB) (fr : KFrM) (chk c2 : KMI) (thn : KMMM) (alike : KMMB) (turned : KMM) (mul sub : KCCC) (lk : KCCB) (R : Type) (f g h : Fr) (k : Value → Option R) :
   evFn (cx Tryz.prog [(14, sTrue), (15, sFrM fr), (16, sFrB small), (17, sChk chk c2), (18, sMMM thn), (19, sMMB alike), (20, sMM turned), (21, sCCC sub), (22, sCCC mul), (23, sCCB lk)]) 40 3 [fv f, fv g, fv h] k =
   groupB small fr chk thn alike turned mul sub lk R f g h fun t => k (.bool t) := by kernel_rfl
end Go.Vm
