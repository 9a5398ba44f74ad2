/- The program's small functions of complex numbers compute what the Lean functions tell; no conditions. -/
import Derived.Test.YtnbpfafngidimaaVmKV
import Derived.Test.YtnbpfafngidimaaVmKF
import Derived.Test.YtnbpfafngidimaaProg
namespace Go.Vm
open Go.Proofs
set_option linter.unusedVariables false
set_option maxRecDepth 1000000
theorem z_sub (R : Type) a b c d (k : Value → Option R) : evFn (cx Try.prog []) 10 14 [.complex .f64 a b, .complex .f64 c d] k = subK R a b c d fun x y => k (.complex .f64 x y) := by kernel_rfl
theorem z_mul (R : Type) a b c d (k : Value → Option R) : evFn (cx Try.prog []) 10 15 [.complex .f64 a b, .complex .f64 c d] k = mulK R a b c d fun x y => k (.complex .f64 x y) := by kernel_rfl
theorem z_add (R : Type) a b c d (k : Value → Option R) : evFn (cx Try.prog []) 10 9 [.complex .f64 a b, .complex .f64 c d] k = addK R a b c d fun x y => k (.complex .f64 x y) := by kernel_rfl
theorem z_neg (R : Type) a b (k : Value → Option R) : evFn (cx Try.prog []) 10 63 [.complex .f64 a b] k = negK R a b fun x y => k (.complex .f64 x y) := by kernel_rfl
theorem z_abs (R : Type) a (k : Value → Option R) : evFn (cx Try.prog []) 10 31 [.float .f64 a] k = absK R a fun t => k (.float .f64 t) := by kernel_rfl
theorem z_within (ab : KFF) (R : Type) a b (k : Value → Option R) : evFn (cx Try.prog [(31, sFF ab)]) 10 20 [.float .f64 a, .float .f64 b] k = withinB ab R a b fun t => k (.bool t) := by kernel_rfl
theorem z_Within (wi : KFFB) (R : Type) a b c (k : Value → Option R) : evFn (cx Try.prog [(20, sFFB wi)]) 10 30 [.complex .f64 a b, .float .f64 c] k = WithinB wi R a b c fun t => k (.bool t) := by kernel_rfl
theorem z_isInf (ab : KFF) (R : Type) a (k : Value → Option R) : evFn (cx Try.prog [(31, sFF ab)]) 20 69 [.float .f64 a, .int .i64 0] k = isInfB ab R a fun t => k (.bool t) := by kernel_rfl
theorem z_isNan (R : Type) a (k : Value → Option R) : evFn (cx Try.prog []) 20 74 [.float .f64 a] k = isNanK R a fun t => k (.bool t) := by kernel_rfl
theorem z_norm (ab : KFF) (R : Type) a (k : Value → Option R) : evFn (cx Try.prog [(31, sFF ab)]) 20 91 [.float .f64 a] k = normB ab R a fun x e => k (.tuple ⟨[.float .f64 x, .int .i64 e]⟩) := by kernel_rfl
theorem z_frexp (fi : Fi) (inf nan : KFB) (nm : KFFI) (R : Type) a (k : Value → Option R) : evFn (cxf fi Try.prog [(69, sInf inf), (74, sFB nan), (91, sFFI nm)] []) 30 88 [.float .f64 a] k = frexpB fi inf nan nm R a fun x e => k (.tuple ⟨[.float .f64 x, .int .i64 e]⟩) := by kernel_rfl
theorem z_copy (R : Type) a b (k : Value → Option R) : evFn (cx Try.prog []) 30 16 [.float .f64 a, .float .f64 b] k = copyK R a b fun x => k (.float .f64 x) := by kernel_rfl
theorem z_ldexp (fi : Fi) (cp : KFFF) (inf nan : KFB) (nm : KFFI) (R : Type) a n (k : Value → Option R) : evFn (cxf fi Try.prog [(69, sInf inf), (74, sFB nan), (91, sFFI nm), (16, sFFF cp), (71, sNever)] []) 30 90 [.float .f64 a, .int .i64 n] k = ldexpB fi cp inf nan nm R a n fun x => k (.float .f64 x) := by kernel_rfl
theorem z_Frexp (fr : KFFI) (R : Type) a (k : Value → Option R) : evFn (cx Try.prog [(88, sFFI fr)]) 30 83 [.float .f64 a] k = fr R a fun x e => k (.tuple ⟨[.float .f64 x, .int .i64 e]⟩) := by kernel_rfl
theorem z_Ldexp (ld : KFIF) (R : Type) a n (k : Value → Option R) : evFn (cx Try.prog [(90, sFIF ld)]) 30 84 [.float .f64 a, .int .i64 n] k = ld R a n fun x => k (.float .f64 x) := by kernel_rfl
theorem z_Parts (fr : KFFI) (R : Type) a (k : Value → Option R) : evFn (cx Try.prog [(83, sFFI fr)]) 30 72 [.float .f64 a] k = fr R a fun x e => k (.tuple ⟨[.float .f64 x, .int .i64 e]⟩) := by kernel_rfl
theorem z_scale (ld : KFIF) (R : Type) a n (k : Value → Option R) : evFn (cx Try.prog [(84, sFIF ld)]) 30 77 [.float .f64 a, .int .i64 n] k = scaleB ld R a n fun x => k (.float .f64 x) := by kernel_rfl
theorem z_greatest (ab : KFF) (R : Type) a b (k : Value → Option R) : evFn (cx Try.prog [(31, sFF ab)]) 30 75 [.complex .f64 a b] k = greatestB ab R a b fun x => k (.float .f64 x) := by kernel_rfl
theorem z_scaled (gr : KCF) (pa : KFFI) (sc : KFIF) (R : Type) a b (k : Value → Option R) : evFn (cx Try.prog [(75, sCF gr), (72, sFFI pa), (77, sFIF sc)]) 30 76 [.complex .f64 a b] k = scaledB gr pa sc R a b fun x y e => k (.tuple ⟨[.complex .f64 x y, .int .i64 e]⟩) := by kernel_rfl
theorem z_square (R : Type) a b (k : Value → Option R) : evFn (cx Try.prog []) 30 79 [.complex .f64 a b] k = squareK R a b fun x => k (.float .f64 x) := by kernel_rfl
theorem z_length (inf nan : KFB) (gr : KCF) (sd : KCCI) (sq : KCF) (rt : KFF) (sc : KFIF) (R : Type) a b (k : Value → Option R) : evFn (cx Try.prog [(69, sInf inf), (74, sFB nan), (75, sCF gr), (76, sCCI sd), (79, sCF sq), (78, sFF rt), (77, sFIF sc), (71, sNever), (70, sNever)]) 30 66 [.complex .f64 a b] k = lengthB inf nan gr sd sq rt sc R a b fun x => k (.float .f64 x) := by kernel_rfl
theorem z_finite (ab : KFF) (R : Type) a (k : Value → Option R) : evFn (cx Try.prog [(31, sFF ab)]) 30 39 [.float .f64 a] k = finiteB ab R a fun t => k (.bool t) := by kernel_rfl
theorem z_Finite (fi : KFB) (R : Type) a b (k : Value → Option R) : evFn (cx Try.prog [(39, sFB fi)]) 30 33 [.complex .f64 a b] k = FiniteB fi R a b fun t => k (.bool t) := by kernel_rfl
theorem z_inf0 (ab : KFF) (R : Type) a (k : Value → Option R) : evFn (cx Try.prog [(31, sFF ab)]) 20 69 [.float .f64 a, .int .i64 0] k = isInfB ab R a fun t => k (.bool t) := by kernel_rfl
theorem z_infP (ab : KFF) (R : Type) a (k : Value → Option R) : evFn (cx Try.prog [(31, sFF ab)]) 20 69 [.float .f64 a, .int .i64 1] k = isInfPK R a fun t => k (.bool t) := by kernel_rfl
theorem z_infM (ab : KFF) (R : Type) a (k : Value → Option R) : evFn (cx Try.prog [(31, sFF ab)]) 20 69 [.float .f64 a, .int .i64 (-1)] k = isInfMK R a fun t => k (.bool t) := by kernel_rfl
theorem z_Inf (R : Type) (k : Value → Option R) : evFn (cx Try.prog []) 40 71 [.int .i64 1] k = k (.float .f64 9218868437227405312) := by kernel_rfl
theorem z_scl (R : Type) a b c (k : Value → Option R) : evFn (cx Try.prog []) 20 36 [.complex .f64 a b, .float .f64 c] k = sclK R a b c fun x y => k (.complex .f64 x y) := by kernel_rfl
theorem z_pi (R : Type) (k : Value → Option R) : evFn (cx Try.prog []) 60 40 [] k = k (.tuple ⟨[.float .f64 4614256656552045848, .float .f64 4368955796522032135]⟩) := by kernel_rfl
theorem z_core (R : Type) t (k : Value → Option R) : evFn (cx Try.prog [(40, sPi)]) 60 80 [.float .f64 t] k = coreK R t fun x => k (.float .f64 x) := by kernel_rfl
theorem z_odd (R : Type) t (k : Value → Option R) : evFn (cx Try.prog []) 60 73 [.float .f64 t] k = oddK R t fun x => k (.float .f64 x) := by kernel_rfl
theorem z_log (fi : Fi) (g0 gp gm : KFB) (pa : KFFI) (odd : KFF) (R : Type) t (k : Value → Option R) : evFn (cxf fi Try.prog [(69, sInf3 g0 gp gm), (70, sNever), (71, sInfW2), (72, sFFI pa), (73, sFF odd)] []) 60 65 [.float .f64 t] k =
  logB fi gp pa odd R t fun x => k (.float .f64 x) := by kernel_rfl
theorem z_sign (fi : Fi) (R : Type) t (k : Value → Option R) : evFn (cxf fi Try.prog [] []) 60 86 [.float .f64 t] k = signB fi R t fun t => k (.bool t) := by kernel_rfl
theorem z_minus (sg : KFB) (R : Type) t (k : Value → Option R) : evFn (cx Try.prog [(86, sFB sg)]) 60 81 [.float .f64 t] k = minusB sg R t fun t => k (.bool t) := by kernel_rfl
theorem z_signed (mi : KFB) (ab : KFF) (R : Type) a b (k : Value → Option R) : evFn (cx Try.prog [(81, sFB mi), (31, sFF ab)]) 60 82 [.float .f64 a, .float .f64 b] k = signedB mi ab R a b fun x => k (.float .f64 x) := by kernel_rfl
theorem z_angle (ab : KFF) (g0 gp gm : KFB) (core : KFF) (mi : KFB) (sd : KFFF) (R : Type) a b (k : Value → Option R) :
  evFn (cx Try.prog [(31, sFF ab), (69, sInf3 g0 gp gm), (40, sPi), (80, sFF core), (81, sFB mi), (82, sFFF sd), (70, sNever)]) 60 67 [.float .f64 a, .float .f64 b] k = angleB ab gp core mi sd R a b fun x => k (.float .f64 x) := by kernel_rfl
theorem z_powLog (len : KCF) (lg : KFF) (an : KFFF) (R : Type) a b (k : Value → Option R) : evFn (cx Try.prog [(66, sCF len), (65, sFF lg), (67, sFFF an)]) 60 61 [.complex .f64 a b] k = powLogB len lg an R a b fun x y => k (.complex .f64 x y) := by kernel_rfl
theorem z_div (ab : KFF) (R : Type) a b c d (k : Value → Option R) : evFn (cx Try.prog [(31, sFF ab)]) 30 62 [.complex .f64 a b, .complex .f64 c d] k = divB ab R a b c d fun x y => k (.complex .f64 x y) := by kernel_rfl
theorem z_reals (wi : KCFB) (R : Type) a b (k : Value → Option R) : evFn (cx Try.prog [(30, sCFB wi)]) 60 19 [.complex .f64 a b] k = placeB wi R a b fun t => k (.bool t) := by kernel_rfl
theorem z_nought2 (R : Type) a b (k : Value → Option R) : evFn (cx Try.prog []) 60 21 [.complex .f64 a b] k = noughtK R a b fun t => k (.bool t) := by kernel_rfl
theorem z_echeck (re : KCB) (wi : KFFB) (no : KCB) (wh : KFB) (R : Type) kind a1 a2 s1 s2 p (k : Value → Option R) :
  evFn (cx Try.prog [(19, sCB re), (20, sFFB wi), (21, sCB no), (22, sFB wh)]) 60 7 [el kind a1 a2 s1 s2 p] k = checkB re wi no wh R kind a1 a2 s1 s2 p fun e => k (.int .i64 e) := by kernel_rfl
end Go.Vm
