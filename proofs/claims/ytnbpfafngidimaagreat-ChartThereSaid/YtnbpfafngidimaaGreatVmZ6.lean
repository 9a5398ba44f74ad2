/- The program's functions of packages math and roots compute what the Lean functions tell; no conditions. -/
import Derived.Test.YtnbpfafngidimaaGreatVmKM
import Derived.Test.YtnbpfafngidimaaGreatProg
namespace Go.Vm
open Go.Proofs
set_option linter.unusedVariables false
set_option maxRecDepth 1000000
theorem z_isInf (ab : KFF) (R : Type) a (k : Value → Option R) : evFn (cx Tryz.prog [(53, sFF ab)]) 20 112 [.float .f64 a, .int .i64 0] k = isInfB ab R a fun t => k (.bool t) := by kernel_rfl
theorem z_isNan (R : Type) a (k : Value → Option R) : evFn (cx Tryz.prog []) 20 114 [.float .f64 a] k = isNanK R a fun t => k (.bool t) := by kernel_rfl
theorem z_norm (ab : KFF) (R : Type) a (k : Value → Option R) : evFn (cx Tryz.prog [(53, sFF ab)]) 20 275 [.float .f64 a] k = normB ab R a fun x e => k (.tuple ⟨[.float .f64 x, .int .i64 e]⟩) := by kernel_rfl
theorem z_frexp (fi : Fi) (inf nan : KFB) (nm : KFFI) (R : Type) a (k : Value → Option R) : evFn (cxf fi Tryz.prog [(112, sInf inf), (114, sFB nan), (275, sFFI nm)] []) 30 260 [.float .f64 a] k = frexpB fi inf nan nm R a fun x e => k (.tuple ⟨[.float .f64 x, .int .i64 e]⟩) := by kernel_rfl
theorem z_copy (R : Type) a b (k : Value → Option R) : evFn (cx Tryz.prog []) 30 77 [.float .f64 a, .float .f64 b] k = copyK R a b fun x => k (.float .f64 x) := by kernel_rfl
theorem z_ldexp (fi : Fi) (cp : KFFF) (inf nan : KFB) (nm : KFFI) (R : Type) a n (k : Value → Option R) : evFn (cxf fi Tryz.prog [(112, sInf inf), (114, sFB nan), (275, sFFI nm), (77, sFFF cp), (113, sNever)] []) 30 247 [.float .f64 a, .int .i64 n] k = ldexpB fi cp inf nan nm R a n fun x => k (.float .f64 x) := by kernel_rfl
theorem z_Frexp (fr : KFFI) (R : Type) a (k : Value → Option R) : evFn (cx Tryz.prog [(260, sFFI fr)]) 30 229 [.float .f64 a] k = fr R a fun x e => k (.tuple ⟨[.float .f64 x, .int .i64 e]⟩) := by kernel_rfl
theorem z_Ldexp (ld : KFIF) (R : Type) a n (k : Value → Option R) : evFn (cx Tryz.prog [(247, sFIF ld)]) 30 201 [.float .f64 a, .int .i64 n] k = ld R a n fun x => k (.float .f64 x) := by kernel_rfl
theorem z_Parts (fr : KFFI) (R : Type) a (k : Value → Option R) : evFn (cx Tryz.prog [(229, sFFI fr)]) 30 200 [.float .f64 a] k = fr R a fun x e => k (.tuple ⟨[.float .f64 x, .int .i64 e]⟩) := by kernel_rfl
theorem z_scale (ld : KFIF) (R : Type) a n (k : Value → Option R) : evFn (cx Tryz.prog [(201, sFIF ld)]) 30 117 [.float .f64 a, .int .i64 n] k = scaleB ld R a n fun x => k (.float .f64 x) := by kernel_rfl
theorem z_greatest (ab : KFF) (R : Type) a b (k : Value → Option R) : evFn (cx Tryz.prog [(53, sFF ab)]) 30 115 [.complex .f64 a b] k = greatestB ab R a b fun x => k (.float .f64 x) := by kernel_rfl
theorem z_scaled (gr : KCF) (pa : KFFI) (sc : KFIF) (R : Type) a b (k : Value → Option R) : evFn (cx Tryz.prog [(115, sCF gr), (200, sFFI pa), (117, sFIF sc)]) 30 116 [.complex .f64 a b] k = scaledB gr pa sc R a b fun x y e => k (.tuple ⟨[.complex .f64 x y, .int .i64 e]⟩) := by kernel_rfl
theorem z_square (R : Type) a b (k : Value → Option R) : evFn (cx Tryz.prog []) 30 119 [.complex .f64 a b] k = squareK R a b fun x => k (.float .f64 x) := by kernel_rfl
theorem z_length (inf nan : KFB) (gr : KCF) (sd : KCCI) (sq : KCF) (rt : KFF) (sc : KFIF) (R : Type) a b (k : Value → Option R) : evFn (cx Tryz.prog [(112, sInf inf), (114, sFB nan), (115, sCF gr), (116, sCCI sd), (119, sCF sq), (118, sFF rt), (117, sFIF sc), (113, sNever), (55, sNever)]) 30 38 [.complex .f64 a b] k = lengthB inf nan gr sd sq rt sc R a b fun x => k (.float .f64 x) := by kernel_rfl
theorem z_near (sub : KCCC) (len : KCF) (R : Type) a b c d m (k : Value → Option R) : evFn (cx Tryz.prog [(21, sCCC sub), (38, sCF len)]) 30 28 [.complex .f64 a b, .complex .f64 c d, .float .f64 m] k = nearB sub len R a b c d m fun t => k (.bool t) := by kernel_rfl
theorem z_finite (ab : KFF) (R : Type) a (k : Value → Option R) : evFn (cx Tryz.prog [(53, sFF ab)]) 30 141 [.float .f64 a] k = finiteB ab R a fun t => k (.bool t) := by kernel_rfl
theorem z_Finite (fi : KFB) (R : Type) a b (k : Value → Option R) : evFn (cx Tryz.prog [(141, sFB fi)]) 30 93 [.complex .f64 a b] k = FiniteB fi R a b fun t => k (.bool t) := by kernel_rfl
end Go.Vm
