/- The program's small functions compute what the Lean functions tell; no conditions. -/
import Derived.Test.YtnbpfafngidimaaGreatVmKF
import Derived.Test.YtnbpfafngidimaaGreatProg
namespace Go.Vm
open Go.Proofs
set_option linter.unusedVariables false
set_option maxRecDepth 1000000

theorem z_sub (R : Type) a b c d (k : Value → Option R) : evFn (cx Tryz.prog []) 10 21 [.complex .f64 a b, .complex .f64 c d] k = subK R a b c d fun x y => k (.complex .f64 x y) := by kernel_rfl
theorem z_mul (R : Type) a b c d (k : Value → Option R) : evFn (cx Tryz.prog []) 10 22 [.complex .f64 a b, .complex .f64 c d] k = mulK R a b c d fun x y => k (.complex .f64 x y) := by kernel_rfl
theorem z_add (R : Type) a b c d (k : Value → Option R) : evFn (cx Tryz.prog []) 10 84 [.complex .f64 a b, .complex .f64 c d] k = addK R a b c d fun x y => k (.complex .f64 x y) := by kernel_rfl
theorem z_neg (R : Type) a b (k : Value → Option R) : evFn (cx Tryz.prog []) 10 86 [.complex .f64 a b] k = negK R a b fun x y => k (.complex .f64 x y) := by kernel_rfl
theorem z_like (R : Type) a b (k : Value → Option R) : evFn (cx Tryz.prog []) 10 87 [.float .f64 a, .float .f64 b] k = likeK R a b fun t => k (.bool t) := by kernel_rfl
theorem z_Like (lk : KFFB) (R : Type) a b c d (k : Value → Option R) : evFn (cx Tryz.prog [(87, sFFB lk)]) 10 23 [.complex .f64 a b, .complex .f64 c d] k = LikeB lk R a b c d fun t => k (.bool t) := by kernel_rfl
theorem z_nought (R : Type) a b (k : Value → Option R) : evFn (cx Tryz.prog []) 10 81 [.complex .f64 a b] k = noughtK R a b fun t => k (.bool t) := by kernel_rfl
theorem z_abs (R : Type) a (k : Value → Option R) : evFn (cx Tryz.prog []) 10 53 [.float .f64 a] k = absK R a fun t => k (.float .f64 t) := by kernel_rfl
theorem z_within (ab : KFF) (R : Type) a b (k : Value → Option R) : evFn (cx Tryz.prog [(53, sFF ab)]) 10 80 [.float .f64 a, .float .f64 b] k = withinB ab R a b fun t => k (.bool t) := by kernel_rfl
theorem z_Within (wi : KFFB) (R : Type) a b c (k : Value → Option R) : evFn (cx Tryz.prog [(80, sFFB wi)]) 10 135 [.complex .f64 a b, .float .f64 c] k = WithinB wi R a b c fun t => k (.bool t) := by kernel_rfl
theorem z_place (wi : KCFB) (R : Type) a b (k : Value → Option R) : evFn (cx Tryz.prog [(135, sCFB wi)]) 10 79 [.complex .f64 a b] k = placeB wi R a b fun t => k (.bool t) := by kernel_rfl
end Go.Vm
