/- The program's functions of ChartThere compute what the Lean functions tell; no conditions. -/
import Derived.Test.YtnbpfafngidimaaGreatVmKM
import Derived.Test.YtnbpfafngidimaaGreatVmZ9
namespace Go.Vm
open Go.Proofs
set_option linter.unusedVariables false
set_option maxRecDepth 1000000
theorem z_inf0 (ab : KFF) (R : Type) a (k : Value → Option R) : evFn (cx Tryz.prog [(53, sFF ab)]) 20 112 [.float .f64 a, .int .i64 0] k = isInfB ab R a fun t => k (.bool t) := by kernel_rfl
theorem z_infP (ab : KFF) (R : Type) a (k : Value → Option R) : evFn (cx Tryz.prog [(53, sFF ab)]) 20 112 [.float .f64 a, .int .i64 1] k = isInfPK R a fun t => k (.bool t) := by kernel_rfl
theorem z_infM (ab : KFF) (R : Type) a (k : Value → Option R) : evFn (cx Tryz.prog [(53, sFF ab)]) 20 112 [.float .f64 a, .int .i64 (-1)] k = isInfMK R a fun t => k (.bool t) := by kernel_rfl
theorem z_Inf (R : Type) (k : Value → Option R) : evFn (cx Tryz.prog []) 40 113 [.int .i64 1] k = k (.float .f64 9218868437227405312) := by kernel_rfl
theorem z_scl (R : Type) a b c (k : Value → Option R) : evFn (cx Tryz.prog []) 20 39 [.complex .f64 a b, .float .f64 c] k = sclK R a b c fun x y => k (.complex .f64 x y) := by kernel_rfl
theorem z_edge (g0 gp gm nan : KFB) (cp : KFFF) (R : Type) a b (k : Value → Option R) : evFn (cx Tryz.prog [(113, sInfW), (112, sInf3 g0 gp gm), (114, sFB nan), (77, sFFF cp), (272, sNever), (55, sNever)]) 60 237 [.float .f64 a, .float .f64 b] k =
  edgeB g0 gp gm nan cp R a b fun x y t => k (.tuple ⟨[.complex .f64 x y, .bool t]⟩) := by kernel_rfl
theorem z_root (fi : Fi) (edge : KFFCB) (gr : KCF) (pa : KFFI) (sc : KFIF) (ab : KFF) (sq : KCF) (rt : KFF) (cp : KFFF) (R : Type) a b (k : Value → Option R) :
  evFn (cxf fi Tryz.prog [(237, sFFCB edge), (115, sCF gr), (200, sFFI pa), (117, sFIF sc), (53, sFF ab), (119, sCF sq), (118, sFF rt), (77, sFFF cp)] []) 60 188 [.complex .f64 a b] k =
  rootB fi edge gr pa sc ab sq rt cp R a b fun x y => k (.complex .f64 x y) := by kernel_rfl
theorem z_sqr (mul : KCCC) (R : Type) m (k : Value → Option R) : evFn (cx Tryz.prog [(22, sCCC mul)]) 20 181 [mv 2 m] k = sqrB mul R m fun x y => k (.complex .f64 x y) := by kernel_rfl
theorem z_jouk (no : KCB) (sqr : KMC) (div add : KCCC) (R : Type) m a b (k : Value → Option R) : evFn (cx Tryz.prog [(81, sCB no), (181, sM2C sqr), (179, sCCC div), (84, sCCC add)]) 30 90 [mv 2 m, .complex .f64 a b] k =
  joukB no sqr div add R m a b (zErrL [6] k) (zOk k) := by kernel_rfl
theorem z_mback (no : KCB) (mul sub div : KCCC) (R : Type) m a b (k : Value → Option R) : evFn (cx Tryz.prog [(81, sCB no), (22, sCCC mul), (21, sCCC sub), (179, sCCC div)]) 30 98 [mv 1 m, .complex .f64 a b] k =
  moebBackB no mul sub div R m a b (zErrL [181] k) (zOk k) := by kernel_rfl
theorem z_jback (scl : KCFC) (mul sub add : KCCC) (neg root : KCC) (R : Type) m a b (k : Value → Option R) :
  evFn (cx Tryz.prog [(39, sCFC scl), (22, sCCC mul), (21, sCCC sub), (84, sCCC add), (86, sCC neg), (188, sCC root)]) 40 99 [mv 2 m, .complex .f64 a b] k =
  joukBackB scl mul sub add neg root R m a b (zErrL [] k) (zOk k) := by kernel_rfl
theorem z_jother (jb : KMZ) (sqr : KMC) (div : KCCC) (R : Type) m a b (k : Value → Option R) :
  evFn (cx Tryz.prog [(99, sMZL [] 2 jb), (181, sM2C sqr), (179, sCCC div)]) 40 95 [mv 2 m, .complex .f64 a b] k =
  joukOtherB jb sqr div R m a b (zErrL [] k) (zOk k) := by kernel_rfl
end Go.Vm
