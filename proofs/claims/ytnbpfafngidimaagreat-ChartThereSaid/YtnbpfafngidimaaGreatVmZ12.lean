/- The program's ChartThere computes what the Lean function tells; no conditions. -/
import Derived.Test.YtnbpfafngidimaaGreatVmZ11
namespace Go.Vm
open Go.Proofs
set_option linter.unusedVariables false
set_option maxRecDepth 1000000
theorem z_at2 (c1 c2 : KMI) (pl : KCB) (jo : KMZ) (fin : KCB) (R : Type) m a b (k : Value → Option R) : evFn (cx Tryz.prog [(17, sChk c1 c2), (79, sCB pl), (90, sMZL [6] 2 jo), (93, sCB fin)]) 40 26 [mv 2 m, .complex .f64 a b] k =
   atLB [6] c2 pl jo fin R m a b (fun e => k (.tuple ⟨[.complex .f64 0 0, .int .i64 e]⟩)) (zOk k) := by kernel_rfl
theorem z_bk1 (c1 c2 : KMI) (pl : KCB) (mb : KMZ) (R : Type) m a b (k : Value → Option R) : evFn (cx Tryz.prog [(17, sChk c1 c2), (79, sCB pl), (98, sMZL [181] 1 mb)]) 40 27 [mv 1 m, .complex .f64 a b, .bool false] k =
   atLB [181] c1 pl mb pl R m a b (fun e => k (.tuple ⟨[.complex .f64 0 0, .int .i64 e]⟩)) (zOk k) := by kernel_rfl
theorem z_bk2 (c1 c2 : KMI) (pl : KCB) (jb : KMZ) (R : Type) m a b (k : Value → Option R) : evFn (cx Tryz.prog [(17, sChk c1 c2), (79, sCB pl), (99, sMZL [] 2 jb)]) 40 27 [mv 2 m, .complex .f64 a b, .bool false] k =
   atLB [] c2 pl jb pl R m a b (fun e => k (.tuple ⟨[.complex .f64 0 0, .int .i64 e]⟩)) (zOk k) := by kernel_rfl
theorem z_bk3 (c1 c2 : KMI) (pl : KCB) (jo : KMZ) (R : Type) m a b (k : Value → Option R) : evFn (cx Tryz.prog [(17, sChk c1 c2), (79, sCB pl), (95, sMZL [] 2 jo)]) 40 27 [mv 2 m, .complex .f64 a b, .bool true] k =
   atLB [] c2 pl jo pl R m a b (fun e => k (.tuple ⟨[.complex .f64 0 0, .int .i64 e]⟩)) (zOk k) := by kernel_rfl
theorem z_thereLaw (up : KGB) (of_ : KGC) (small : KFrB) (fr : KFrM) (at1 at2 bk1 bk2 bk3 : KMZ) (near : KCCFB) (R : Type) f a p (k : Value → Option R) :
   evFn (cx Tryz.prog [(14, sTrue), (24, sUp up), (25, sOf of_), (16, sFrB small), (15, sFrM fr), (26, sAt at1 at2), (27, sBack bk1 bk2 bk3), (28, sCCFB near)]) 80 4 [fv f, gv a, gv p] k = thereLaw up of_ small fr at1 at2 bk1 bk2 bk3 near R f a p fun t => k (.bool t) := by kernel_rfl
end Go.Vm
