/- The program's functions of ChartThree compute what the Lean functions tell; no conditions. -/
import Derived.Test.YtnbpfafngidimaaGreatVmKM
import Derived.Test.YtnbpfafngidimaaGreatVmZ3
import Derived.Test.YtnbpfafngidimaaGreatVmZ6
namespace Go.Vm
open Go.Proofs
set_option linter.unusedVariables false
set_option maxRecDepth 1000000
theorem z_div (ab : KFF) (R : Type) a b c d (k : Value → Option R) : evFn (cx Tryz.prog [(53, sFF ab)]) 30 179 [.complex .f64 a b, .complex .f64 c d] k = divB ab R a b c d fun x y => k (.complex .f64 x y) := by kernel_rfl
theorem z_under (mul add : KCCC) (R : Type) m a b (k : Value → Option R) : evFn (cx Tryz.prog [(22, sCCC mul), (84, sCCC add)]) 30 180 [mv 1 m, .complex .f64 a b] k = underB mul add R m a b fun x y => k (.complex .f64 x y) := by kernel_rfl
theorem z_moeb (un : KMZC) (no : KCB) (mul add div : KCCC) (R : Type) m a b (k : Value → Option R) : evFn (cx Tryz.prog [(180, sMZC un), (81, sCB no), (22, sCCC mul), (84, sCCC add), (179, sCCC div)]) 30 89 [mv 1 m, .complex .f64 a b] k =
   moebB un no mul add div R m a b (fun e => k (.tuple ⟨[.complex .f64 0 0, .int .i64 e]⟩)) (fun x y => k (.tuple ⟨[.complex .f64 x y, .int .i64 0]⟩)) := by kernel_rfl
theorem z_at (c1 c2 : KMI) (pl : KCB) (mo : KMZ) (fin : KCB) (R : Type) m a b (k : Value → Option R) : evFn (cx Tryz.prog [(17, sChk c1 c2), (79, sCB pl), (89, sMZ mo), (93, sCB fin)]) 40 26 [mv 1 m, .complex .f64 a b] k =
   atB c1 pl mo fin R m a b (fun e => k (.tuple ⟨[.complex .f64 0 0, .int .i64 e]⟩)) (fun x y => k (.tuple ⟨[.complex .f64 x y, .int .i64 0]⟩)) := by kernel_rfl
theorem z_unlike (lk : KCCB) (R : Type) l (k : Value → Option R) : evFn (cx Tryz.prog [(23, sCCB lk)]) 30 102 [tv l] k = unlikeB lk R l fun t => k (.bool t) := by kernel_rfl
theorem z_three (sub mul : KCCC) (ng : KCC) (told : KMM) (R : Type) l (k : Value → Option R) : evFn (cx Tryz.prog [(21, sCCC sub), (22, sCCC mul), (86, sCC ng), (85, sMM2 told)]) 30 103 [tv l] k = threeB sub mul ng told R l (mErr k) (mOk k) := by kernel_rfl
theorem z_Three (pl : KCB) (un : KTB) (th : KTM) (tu : KMM) (thn : KMMM) (R : Type) l n (k : Value → Option R) : evFn (cx Tryz.prog [(79, sCB pl), (102, sTB un), (103, sTM th), (20, sMM2 tu), (18, sMMM2 thn)]) 60 29 [tv l, tv n] k =
   ThreeB pl un th tu thn R l n (fun e => k (.tuple ⟨[mv 0 zm, .int .i64 e]⟩)) (mOk k) := by kernel_rfl
end Go.Vm
