/- The code of ForceLift's small functions computes just what is told of them; no conditions. The code of PanelHalves and of its small functions computes just what is told of them; no conditions. -/
import Derived.Test.YtnbpfafngidimaaGreatVmKH
import Derived.Test.YtnbpfafngidimaaGreatVmHB
import Derived.Test.YtnbpfafngidimaaGreatProg
namespace Go.Vm
open Go.Proofs
set_option linter.unusedVariables false
set_option maxRecDepth 1000000

/-! ### ForceLift's functions -/
def sTrueL : Sum := fun R args k => match args with | [] => k (.bool true) | _ => none
def sPi2 : Sum := fun R args k => match args with
  | [] => k (.tuple ⟨[.float .f64 4614256656552045848, .float .f64 4368955796522032135]⟩)
  | _ => none
/-- of a number it is told that it is not one or the other -/
def sNot2 (g : KFFF1) : Sum := fun R args k => match args with
  | [.float .f64 a, .int .i64 0] => g R a 0 0 (k (.bool false))
  | _ => none
def sNot1 (g : KF1) : Sum := fun R args k => match args with
  | [.float .f64 a] => g R a (k (.bool false))
  | _ => none
def sFr1000 : Sum := fun R args k => match args with
  | [.float .f64 a] => bif Nat.beq a 4652007308841189376 then k (.tuple ⟨[.float .f64 4606971312567484416, .int .i64 10]⟩) else none
  | _ => none
def sNone : Sum := fun R args k => none
theorem zl_conj (R : Type) (a b : Nat) (k : Value → Option R) : evFn (cx Tryz.prog []) 60 124 [.complex .f64 a b] k = conjK R a b fun x y => k (.complex .f64 x y) := by kernel_rfl
theorem zl_times (R : Type) (a b : Nat) (k : Value → Option R) : evFn (cx Tryz.prog []) 60 40 [.complex .f64 a b] k = timesK R a b fun x y => k (.complex .f64 x y) := by kernel_rfl
theorem zl_whole (fi : Fi) (R : Type) (n : Int) (k : Value → Option R) : evFn (cxf fi Tryz.prog [] []) 60 68 [.int .i64 n] k = wholeGB fi R n fun x => k (.float .f64 x) := by kernel_rfl
theorem zl_fit (pl : KCFB) (R : Type) (a b r : Nat) (k : Value → Option R) : evFn (cx Tryz.prog [(135, sCFB pl)]) 60 128 [.agg ⟨[.complex .f64 a b, .float .f64 r]⟩] k = fitB pl R a b r fun t => k (.bool t) := by kernel_rfl
theorem zl_near (ab : KFF) (R : Type) (a b r : Nat) (k : Value → Option R) : evFn (cx Tryz.prog [(53, sFF ab)]) 60 66 [.float .f64 a, .float .f64 b, .float .f64 r] k = nearFB ab R a b r fun t => k (.bool t) := by kernel_rfl
theorem zl_side1 (sub : KCCC) (ln : KCF) (R : Type) (a b s1 s2 p c1 c2 r : Nat) (k : Value → Option R) : evFn (cx Tryz.prog [(21, sCCC sub), (38, sCF ln)]) 60 195 [el 1 a b s1 s2 p, .agg ⟨[.complex .f64 c1 c2, .float .f64 r]⟩] k =
  sideB sub ln R 1 a b c1 c2 r fun i => k (.int .i64 i) := by kernel_rfl
theorem zl_side2 (sub : KCCC) (ln : KCF) (R : Type) (a b s1 s2 p c1 c2 r : Nat) (k : Value → Option R) : evFn (cx Tryz.prog [(21, sCCC sub), (38, sCF ln)]) 60 195 [el 2 a b s1 s2 p, .agg ⟨[.complex .f64 c1 c2, .float .f64 r]⟩] k =
  sideB sub ln R 2 a b c1 c2 r fun i => k (.int .i64 i) := by kernel_rfl
theorem zl_side3 (sub : KCCC) (ln : KCF) (R : Type) (a b s1 s2 p c1 c2 r : Nat) (k : Value → Option R) : evFn (cx Tryz.prog [(21, sCCC sub), (38, sCF ln)]) 60 195 [el 3 a b s1 s2 p, .agg ⟨[.complex .f64 c1 c2, .float .f64 r]⟩] k =
  sideB sub ln R 3 a b c1 c2 r fun i => k (.int .i64 i) := by kernel_rfl
theorem zl_Pi (R : Type) (k : Value → Option R) : evFn (cx Tryz.prog []) 60 65 [] k = k (.tuple ⟨[.float .f64 4614256656552045848, .float .f64 4368955796522032135]⟩) := by kernel_rfl
theorem zl_mod (n2 : KFFF1) (n1 : KF1) (R : Type) (x : Nat) (k : Value → Option R) : evFn (cx Tryz.prog [(53, sFF absK), (112, sNot2 n2), (114, sNot1 n1), (229, sFr1000), (201, sNone)]) 60 69 [.float .f64 x, .float .f64 4652007308841189376] k =
  modE n2 n1 R x fun y => k (.float .f64 y) := by kernel_rfl
end Go.Vm
namespace Go.Vm
open Go.Proofs
set_option linter.unusedVariables false
set_option maxRecDepth 1000000

/-! ### PanelHalves' functions -/
theorem zh_one (wi : KCF1) (wf : KFF1) (sub mul : KCCC) (ln : KCF) (un : KCC) (cj lg : KCC) (sc : KCFC) (fC : KC1) (R : Type) (f1 f2 t1 t2 s z1 z2 : Nat) (k : Value → Option R) :
  evFn (cx Tryz.prog [(135, sCFB1 wi), (80, sFFB1 wf), (21, sCCC sub), (38, sCF ln), (123, sUnit un), (124, sCC cj), (22, sCCC mul), (189, sCC lg), (65, sPi2), (39, sCFC sc), (93, sCB1 fC)]) 60 54 [.agg ⟨[.complex .f64 f1 f2, .complex .f64 t1 t2, .float .f64 s]⟩, .complex .f64 z1 z2] k =
  oneB wi wf sub mul ln un cj lg sc fC R f1 f2 t1 t2 s z1 z2 (fun e => k (.tuple ⟨[.complex .f64 0 0, .int .i64 e]⟩)) fun x y => k (.tuple ⟨[.complex .f64 x y, .int .i64 0]⟩) := by kernel_rfl
theorem zh_unit (fC : KC1) (gr : KCF) (scd : KCCI) (sq : KCF) (rt : KFF) (R : Type) (a b : Nat) (k : Value → Option R) :
  evFn (cx Tryz.prog [(93, sCB1 fC), (115, sCF gr), (116, sCCI scd), (119, sCF sq), (118, sFF rt)]) 60 123 [.complex .f64 a b] k = unitB fC gr scd sq rt R a b fun x y t => k (.tuple ⟨[.complex .f64 x y, .bool t]⟩) := by kernel_rfl
theorem zh_whole (fi : Fi) (R : Type) (n : Int) (k : Value → Option R) : evFn (cxf fi Tryz.prog [] []) 60 134 [.int .i64 n] k = whole17B fi R n fun x => k (.float .f64 x) := by kernel_rfl
def sHyp (g : KFFF) : Sum := fun R args k => match args with
  | [.float .f64 a, .float .f64 b] => g R a b fun x => k (.float .f64 x)
  | _ => none
theorem zh_hyp (hy : KFFF) (R : Type) (a b : Nat) (k : Value → Option R) : evFn (cxf fiReal Tryz.prog [] [(150, sHyp hy)]) 60 58 [.float .f64 a, .float .f64 b] k = hy R a b fun x => k (.float .f64 x) := by kernel_rfl
theorem zh_halves (wh : KIF) (hy : KFFF) (ab : KFF) (one : KOne) (R : Type) (a b c d x y : Int) (k : Value → Option R) :
  evFn (cx Tryz.prog [(47, sTrueL), (134, sIF wh), (58, sHyp hy), (53, sFF ab), (54, sOne one)]) 60 10 [.int .i64 a, .int .i64 b, .int .i64 c, .int .i64 d, .int .i64 x, .int .i64 y] k = halvesB wh hy ab one R a b c d x y fun t => k (.bool t) := by kernel_rfl
end Go.Vm
