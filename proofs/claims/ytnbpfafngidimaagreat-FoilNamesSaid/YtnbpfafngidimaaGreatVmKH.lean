/- What logarithms and angles of powers compute, joined; no conditions. -/
import Derived.Test.YtnbpfafngidimaaGreatVmKF
import Derived.Test.YtnbpfafngidimaaGreatVmP3
namespace Go.Vm
set_option linter.unusedVariables false

/-! ### What logarithms and angles compute -/
def logK : KFF := logB fiReal isInfPK frexpK oddK
def signK : KFB := signB fiReal
def minusK : KFB := minusB signK
def signedK : KFFF := signedB minusK absK
def angleK : KFFF := angleB absK isInfPK coreK minusK signedK
def powLogK : KCC := powLogB lengthK logK angleK
end Go.Vm
