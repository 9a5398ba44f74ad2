/- The code of ForceLift computes just what is told of it; no conditions. -/
import Derived.Test.YtnbpfafngidimaaGreatVmZN0
namespace Go.Vm
open Go.Proofs
set_option linter.unusedVariables false
set_option maxRecDepth 1000000
theorem zl_lift (wh : KIF) (ab md : KFF) (ei : KE1) (fit : KFFF1) (cj ng tm : KCC) (sc : KCFC) (cl : KCl) (sd : KSd) (sub add mul : KCCC) (fC : KC1) (fF : KF1) (nr : KFFF1) (R : Type) (s t turn x y radius : Int) (k : Value → Option R) :
  evFn (cxg fiReal Tryz.prog [(67, sTrueL), (68, sIF wh), (53, sFF ab), (69, sMod md), (199, sEI1 ei), (128, sFit1 fit), (124, sCC cj), (39, sCFC sc), (195, sSide sd), (21, sCCC sub), (84, sCCC add), (22, sCCC mul), (86, sCC ng), (40, sCC tm), (65, sPi2), (93, sCB1 fC), (141, sFB1 fF), (66, sFFFB1 nr)] [] [(192, sClean cl)]) 1000 12
    [.int .i64 s, .int .i64 t, .int .i64 turn, .int .i64 x, .int .i64 y, .int .i64 radius] k = liftB wh ab md ei fit cj ng tm sc cl sd sub add mul fC fF nr R s t turn x y radius fun t => k (.bool t) := by kernel_rfl
end Go.Vm
