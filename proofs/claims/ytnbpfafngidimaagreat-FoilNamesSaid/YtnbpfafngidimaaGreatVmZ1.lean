/- The program's small functions compute what the Lean functions tell; no conditions. The program's chart functions compute what the Lean functions tell; no conditions. The program's ChartGroup computes what the Lean function tells; no conditions. -/
import Derived.Test.YtnbpfafngidimaaGreatVmKF
import Derived.Test.YtnbpfafngidimaaGreatProg
namespace Go.Vm
open Go.Proofs
set_option linter.unusedVariables false
set_option maxRecDepth 1000000

theorem z_sub (R : Type) a b c d (k : Value → Option R) : evFn (cx Tryz.prog []) 10 21 [.complex .f64 a b, .complex .f64 c d] k = subK R a b c d fun x y => k (.complex .f64 x y) := by kernel_rfl
theorem z_mul (R : Type) a b c d (k : Value → Option R) : evFn (cx Tryz.prog []) 10 22 [.complex .f64 a b, .complex .f64 c d] k = mulK R a b c d fun x y => k (.complex .f64 x y) := by kernel_rfl
theorem z_add (R : Type) a b c d (k : Value → Option R) : evFn (cx Tryz.prog []) 10 84 [.complex .f64 a b, .complex .f64 c d] k = addK R a b c d fun x y => k (.complex .f64 x y) := by kernel_rfl
theorem z_neg (R : Type) a b (k : Value → Option R) : evFn (cx Tryz.prog []) 10 86 [.complex .f64 a b] k = negK R a b fun x y => k (.complex .f64 x y) := by kernel_rfl
theorem z_like (R : Type) a b (k : Value → Option R) : evFn (cx Tryz.prog []) 10 87 [.float .f64 a, .float .f64 b] k = likeK R a b fun t => k (.bool t) := by kernel_rfl
theorem z_Like (lk : KFFB) (R : Type) a b c d (k : Value → Option R) : evFn (cx Tryz.prog [(87, sFFB lk)]) 10 23 [.complex .f64 a b, .complex .f64 c d] k = LikeB lk R a b c d fun t => k (.bool t) := by kernel_rfl
theorem z_nought (R : Type) a b (k : Value → Option R) : evFn (cx Tryz.prog []) 10 81 [.complex .f64 a b] k = noughtK R a b fun t => k (.bool t) := by kernel_rfl
theorem z_abs (R : Type) a (k : Value → Option R) : evFn (cx Tryz.prog []) 10 53 [.float .f64 a] k = absK R a fun t => k (.float .f64 t) := by kernel_rfl
theorem z_within (ab : KFF) (R : Type) a b (k : Value → Option R) : evFn (cx Tryz.prog [(53, sFF ab)]) 10 80 [.float .f64 a, .float .f64 b] k = withinB ab R a b fun t => k (.bool t) := by kernel_rfl
theorem z_Within (wi : KFFB) (R : Type) a b c (k : Value → Option R) : evFn (cx Tryz.prog [(80, sFFB wi)]) 10 135 [.complex .f64 a b, .float .f64 c] k = WithinB wi R a b c fun t => k (.bool t) := by kernel_rfl
theorem z_place (wi : KCFB) (R : Type) a b (k : Value → Option R) : evFn (cx Tryz.prog [(135, sCFB wi)]) 10 79 [.complex .f64 a b] k = placeB wi R a b fun t => k (.bool t) := by kernel_rfl
end Go.Vm
namespace Go.Vm
open Go.Proofs
set_option linter.unusedVariables false
set_option maxRecDepth 1000000

theorem z_up (R : Type) x y (k : Value → Option R) : evFn (cx Tryz.prog []) 10 24 [.agg ⟨[.int .i16 x, .int .i16 y]⟩, .int .i16 8] k = upK x y fun t => k (.bool t) := by kernel_rfl
theorem z_of (R : Type) x y (k : Value → Option R) : evFn (cx Tryz.prog []) 10 25 [.agg ⟨[.int .i16 x, .int .i16 y]⟩] k = ofK x y fun a b => k (.complex .f64 a b) := by kernel_rfl
theorem z_small (up : KGB) (R : Type) (f : Fr) (k : Value → Option R) : evFn (cx Tryz.prog [(24, sUp up)]) 10 16 [fv f] k = smallB up R f fun t => k (.bool t) := by kernel_rfl
theorem z_fr (of_ : KGC) (R : Type) (f : Fr) (k : Value → Option R) : evFn (cx Tryz.prog [(25, sOf of_)]) 10 15 [fv f] k = frB of_ R f fun m => k (mv 1 m) := by kernel_rfl
theorem z_det (mul sub : KCCC) (R : Type) (m : Mp) (k : Value → Option R) : evFn (cx Tryz.prog [(22, sCCC mul), (21, sCCC sub)]) 10 82 [mv 1 m] k = detB mul sub R m fun x y => k (.complex .f64 x y) := by kernel_rfl
theorem z_both (mul add : KCCC) (R : Type) a b c d a' b' c' d' (k : Value → Option R) : evFn (cx Tryz.prog [(22, sCCC mul), (84, sCCC add)]) 10 83 [.complex .f64 a b, .complex .f64 c d, .complex .f64 a' b', .complex .f64 c' d'] k = bothB mul add R a b c d a' b' c' d' fun x y => k (.complex .f64 x y) := by kernel_rfl
theorem z_chk1 (pl no : KCB) (wi : KFFB) (det : KMC) (R : Type) (m : Mp) (k : Value → Option R) : evFn (cx Tryz.prog [(79, sCB pl), (81, sCB no), (80, sFFB wi), (82, sDet det)]) 40 17 [mv 1 m] k = chk1B pl no wi det R m fun e => k (.int .i64 e) := by kernel_rfl
theorem z_chk2 (pl no : KCB) (wi : KFFB) (det : KMC) (R : Type) (m : Mp) (k : Value → Option R) : evFn (cx Tryz.prog [(79, sCB pl), (81, sCB no), (80, sFFB wi), (82, sDet det)]) 40 17 [mv 2 m] k = chk2B pl no wi R m fun e => k (.int .i64 e) := by kernel_rfl
theorem z_told (c1 c2 : KMI) (R : Type) (m : Mp) (k : Value → Option R) : evFn (cx Tryz.prog [(17, sChk c1 c2)]) 20 85 [mv 1 m] k = toldB c1 R m (fun e => k (.tuple ⟨[mv 0 zm, .int .i64 e]⟩)) (fun m => k (.tuple ⟨[mv 1 m, .int .i64 0]⟩)) := by kernel_rfl
theorem z_turned (c1 c2 : KMI) (ng : KCC) (told : KMM) (R : Type) (m : Mp) (k : Value → Option R) : evFn (cx Tryz.prog [(17, sChk c1 c2), (86, sCC ng), (85, sMM told)]) 20 20 [mv 1 m] k = turnedB c1 ng told R m (fun e => k (.tuple ⟨[mv 0 zm, .int .i64 e]⟩)) (fun m => k (.tuple ⟨[mv 1 m, .int .i64 0]⟩)) := by kernel_rfl
theorem z_alike (lk : KCCB) (R : Type) (m n : Mp) (k : Value → Option R) : evFn (cx Tryz.prog [(23, sCCB lk)]) 20 19 [mv 1 m, mv 1 n] k = alikeB lk R m n fun t => k (.bool t) := by kernel_rfl
theorem z_then (c1 c2 : KMI) (both : KC4) (told : KMM) (R : Type) (m n : Mp) (k : Value → Option R) : evFn (cx Tryz.prog [(17, sChk c1 c2), (83, sC4 both), (85, sMM told)]) 30 18 [mv 1 m, mv 1 n] k = thenB c1 both told R m n (fun e => k (.tuple ⟨[mv 0 zm, .int .i64 e]⟩)) (fun m => k (.tuple ⟨[mv 1 m, .int .i64 0]⟩)) := by kernel_rfl
end Go.Vm
namespace Go.Vm
open Go.Proofs
set_option linter.unusedVariables false
set_option maxRecDepth 1000000

def sTrue : Sum := fun R args k => match args with | [] => k (.bool true) | _ => none
theorem z_group (small : KFrB) (fr : KFrM) (chk c2 : KMI) (thn : KMMM) (alike : KMMB) (turned : KMM) (mul sub : KCCC) (lk : KCCB) (R : Type) (f g h : Fr) (k : Value → Option R) :
   evFn (cx Tryz.prog [(14, sTrue), (15, sFrM fr), (16, sFrB small), (17, sChk chk c2), (18, sMMM thn), (19, sMMB alike), (20, sMM turned), (21, sCCC sub), (22, sCCC mul), (23, sCCB lk)]) 40 3 [fv f, fv g, fv h] k =
   groupB small fr chk thn alike turned mul sub lk R f g h fun t => k (.bool t) := by kernel_rfl
end Go.Vm
