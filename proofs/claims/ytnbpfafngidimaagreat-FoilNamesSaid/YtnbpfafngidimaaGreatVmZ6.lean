/- The program's functions of packages math and roots compute what the Lean functions tell; no conditions. The program's functions of ChartThree compute what the Lean functions tell; no conditions. The program's ChartThree computes what the Lean function tells; no conditions. -/
import Derived.Test.YtnbpfafngidimaaGreatVmKF
import Derived.Test.YtnbpfafngidimaaGreatProg
import Derived.Test.YtnbpfafngidimaaGreatVmZ1
namespace Go.Vm
open Go.Proofs
set_option linter.unusedVariables false
set_option maxRecDepth 1000000
theorem z_isInf (ab : KFF) (R : Type) a (k : Value → Option R) : evFn (cx Tryz.prog [(53, sFF ab)]) 20 112 [.float .f64 a, .int .i64 0] k = isInfB ab R a fun t => k (.bool t) := by kernel_rfl
theorem z_isNan (R : Type) a (k : Value → Option R) : evFn (cx Tryz.prog []) 20 114 [.float .f64 a] k = isNanK R a fun t => k (.bool t) := by kernel_rfl
theorem z_norm (ab : KFF) (R : Type) a (k : Value → Option R) : evFn (cx Tryz.prog [(53, sFF ab)]) 20 275 [.float .f64 a] k = normB ab R a fun x e => k (.tuple ⟨[.float .f64 x, .int .i64 e]⟩) := by kernel_rfl
theorem z_frexp (fi : Fi) (inf nan : KFB) (nm : KFFI) (R : Type) a (k : Value → Option R) : evFn (cxf fi Tryz.prog [(112, sInf inf), (114, sFB nan), (275, sFFI nm)] []) 30 260 [.float .f64 a] k = frexpB fi inf nan nm R a fun x e => k (.tuple ⟨[.float .f64 x, .int .i64 e]⟩) := by kernel_rfl
theorem z_copy (R : Type) a b (k : Value → Option R) : evFn (cx Tryz.prog []) 30 77 [.float .f64 a, .float .f64 b] k = copyK R a b fun x => k (.float .f64 x) := by kernel_rfl
theorem z_ldexp (fi : Fi) (cp : KFFF) (inf nan : KFB) (nm : KFFI) (R : Type) a n (k : Value → Option R) : evFn (cxf fi Tryz.prog [(112, sInf inf), (114, sFB nan), (275, sFFI nm), (77, sFFF cp), (113, sNever)] []) 30 247 [.float .f64 a, .int .i64 n] k = ldexpB fi cp inf nan nm R a n fun x => k (.float .f64 x) := by kernel_rfl
theorem z_Frexp (fr : KFFI) (R : Type) a (k : Value → Option R) : evFn (cx Tryz.prog [(260, sFFI fr)]) 30 229 [.float .f64 a] k = fr R a fun x e => k (.tuple ⟨[.float .f64 x, .int .i64 e]⟩) := by kernel_rfl
theorem z_Ldexp (ld : KFIF) (R : Type) a n (k : Value → Option R) : evFn (cx Tryz.prog [(247, sFIF ld)]) 30 201 [.float .f64 a, .int .i64 n] k = ld R a n fun x => k (.float .f64 x) := by kernel_rfl
theorem z_Parts (fr : KFFI) (R : Type) a (k : Value → Option R) : evFn (cx Tryz.prog [(229, sFFI fr)]) 30 200 [.float .f64 a] k = fr R a fun x e => k (.tuple ⟨[.float .f64 x, .int .i64 e]⟩) := by kernel_rfl
theorem z_scale (ld : KFIF) (R : Type) a n (k : Value → Option R) : evFn (cx Tryz.prog [(201, sFIF ld)]) 30 117 [.float .f64 a, .int .i64 n] k = scaleB ld R a n fun x => k (.float .f64 x) := by kernel_rfl
theorem z_greatest (ab : KFF) (R : Type) a b (k : Value → Option R) : evFn (cx Tryz.prog [(53, sFF ab)]) 30 115 [.complex .f64 a b] k = greatestB ab R a b fun x => k (.float .f64 x) := by kernel_rfl
theorem z_scaled (gr : KCF) (pa : KFFI) (sc : KFIF) (R : Type) a b (k : Value → Option R) : evFn (cx Tryz.prog [(115, sCF gr), (200, sFFI pa), (117, sFIF sc)]) 30 116 [.complex .f64 a b] k = scaledB gr pa sc R a b fun x y e => k (.tuple ⟨[.complex .f64 x y, .int .i64 e]⟩) := by kernel_rfl
theorem z_square (R : Type) a b (k : Value → Option R) : evFn (cx Tryz.prog []) 30 119 [.complex .f64 a b] k = squareK R a b fun x => k (.float .f64 x) := by kernel_rfl
theorem z_length (inf nan : KFB) (gr : KCF) (sd : KCCI) (sq : KCF) (rt : KFF) (sc : KFIF) (R : Type) a b (k : Value → Option R) : evFn (cx Tryz.prog [(112, sInf inf), (114, sFB nan), (115, sCF gr), (116, sCCI sd), (119, sCF sq), (118, sFF rt), (117, sFIF sc), (113, sNever), (55, sNever)]) 30 38 [.complex .f64 a b] k = lengthB inf nan gr sd sq rt sc R a b fun x => k (.float .f64 x) := by kernel_rfl
theorem z_near (sub : KCCC) (len : KCF) (R : Type) a b c d m (k : Value → Option R) : evFn (cx Tryz.prog [(21, sCCC sub), (38, sCF len)]) 30 28 [.complex .f64 a b, .complex .f64 c d, .float .f64 m] k = nearB sub len R a b c d m fun t => k (.bool t) := by kernel_rfl
theorem z_finite (ab : KFF) (R : Type) a (k : Value → Option R) : evFn (cx Tryz.prog [(53, sFF ab)]) 30 141 [.float .f64 a] k = finiteB ab R a fun t => k (.bool t) := by kernel_rfl
theorem z_Finite (fi : KFB) (R : Type) a b (k : Value → Option R) : evFn (cx Tryz.prog [(141, sFB fi)]) 30 93 [.complex .f64 a b] k = FiniteB fi R a b fun t => k (.bool t) := by kernel_rfl
end Go.Vm
namespace Go.Vm
open Go.Proofs
set_option linter.unusedVariables false
set_option maxRecDepth 1000000
theorem z_div (ab : KFF) (R : Type) a b c d (k : Value → Option R) : evFn (cx Tryz.prog [(53, sFF ab)]) 30 179 [.complex .f64 a b, .complex .f64 c d] k = divB ab R a b c d fun x y => k (.complex .f64 x y) := by kernel_rfl
theorem z_under (mul add : KCCC) (R : Type) m a b (k : Value → Option R) : evFn (cx Tryz.prog [(22, sCCC mul), (84, sCCC add)]) 30 180 [mv 1 m, .complex .f64 a b] k = underB mul add R m a b fun x y => k (.complex .f64 x y) := by kernel_rfl
theorem z_moeb (un : KMZC) (no : KCB) (mul add div : KCCC) (R : Type) m a b (k : Value → Option R) : evFn (cx Tryz.prog [(180, sMZC un), (81, sCB no), (22, sCCC mul), (84, sCCC add), (179, sCCC div)]) 30 89 [mv 1 m, .complex .f64 a b] k =
   moebB un no mul add div R m a b (fun e => k (.tuple ⟨[.complex .f64 0 0, .int .i64 e]⟩)) (fun x y => k (.tuple ⟨[.complex .f64 x y, .int .i64 0]⟩)) := by kernel_rfl
theorem z_at (c1 c2 : KMI) (pl : KCB) (mo : KMZ) (fin : KCB) (R : Type) m a b (k : Value → Option R) : evFn (cx Tryz.prog [(17, sChk c1 c2), (79, sCB pl), (89, sMZ mo), (93, sCB fin)]) 40 26 [mv 1 m, .complex .f64 a b] k =
   atB c1 pl mo fin R m a b (fun e => k (.tuple ⟨[.complex .f64 0 0, .int .i64 e]⟩)) (fun x y => k (.tuple ⟨[.complex .f64 x y, .int .i64 0]⟩)) := by kernel_rfl
theorem z_unlike (lk : KCCB) (R : Type) l (k : Value → Option R) : evFn (cx Tryz.prog [(23, sCCB lk)]) 30 102 [tv l] k = unlikeB lk R l fun t => k (.bool t) := by kernel_rfl
theorem z_three (sub mul : KCCC) (ng : KCC) (told : KMM) (R : Type) l (k : Value → Option R) : evFn (cx Tryz.prog [(21, sCCC sub), (22, sCCC mul), (86, sCC ng), (85, sMM2 told)]) 30 103 [tv l] k = threeB sub mul ng told R l (mErr k) (mOk k) := by kernel_rfl
theorem z_Three (pl : KCB) (un : KTB) (th : KTM) (tu : KMM) (thn : KMMM) (R : Type) l n (k : Value → Option R) : evFn (cx Tryz.prog [(79, sCB pl), (102, sTB un), (103, sTM th), (20, sMM2 tu), (18, sMMM2 thn)]) 60 29 [tv l, tv n] k =
   ThreeB pl un th tu thn R l n (fun e => k (.tuple ⟨[mv 0 zm, .int .i64 e]⟩)) (mOk k) := by kernel_rfl
end Go.Vm
namespace Go.Vm
open Go.Proofs
set_option linter.unusedVariables false
set_option maxRecDepth 1000000
theorem z_threeLaw (up : KGB) (of_ : KGC) (three : KTTM) (at_ : KMZ) (near : KCCFB) (R : Type) f g (k : Value → Option R) :
   evFn (cx Tryz.prog [(14, sTrue), (24, sUp up), (25, sOf of_), (29, sTTM three), (26, sMZ at_), (28, sCCFB near)]) 80 5 [iv f, iv g] k = threeLaw up of_ three at_ near R f g fun t => k (.bool t) := by kernel_rfl
end Go.Vm
