/- The code of ForceLift's small functions computes just what is told of them; no conditions. The code of clean computes just what is told of it, of three elements that lie in memory; no conditions. -/
import Derived.Test.YtnbpfafngidimaaGreatVmKH
import Derived.Test.YtnbpfafngidimaaGreatVmHB
import Derived.Test.YtnbpfafngidimaaGreatProg
namespace Go.Vm
open Go.Proofs
set_option linter.unusedVariables false
set_option maxRecDepth 1000000

/-! ### ForceLift's functions -/
def sTrueL : Sum := fun R args k => match args with | [] => k (.bool true) | _ => none
def sPi2 : Sum := fun R args k => match args with
  | [] => k (.tuple ⟨[.float .f64 4614256656552045848, .float .f64 4368955796522032135]⟩)
  | _ => none
/-- of a number it is told that it is not one or the other -/
def sNot2 (g : KFFF1) : Sum := fun R args k => match args with
  | [.float .f64 a, .int .i64 0] => g R a 0 0 (k (.bool false))
  | _ => none
def sNot1 (g : KF1) : Sum := fun R args k => match args with
  | [.float .f64 a] => g R a (k (.bool false))
  | _ => none
def sFr1000 : Sum := fun R args k => match args with
  | [.float .f64 a] => bif Nat.beq a 4652007308841189376 then k (.tuple ⟨[.float .f64 4606971312567484416, .int .i64 10]⟩) else none
  | _ => none
def sNone : Sum := fun R args k => none
theorem zl_conj (R : Type) (a b : Nat) (k : Value → Option R) : evFn (cx Tryz.prog []) 60 124 [.complex .f64 a b] k = conjK R a b fun x y => k (.complex .f64 x y) := by kernel_rfl
theorem zl_times (R : Type) (a b : Nat) (k : Value → Option R) : evFn (cx Tryz.prog []) 60 40 [.complex .f64 a b] k = timesK R a b fun x y => k (.complex .f64 x y) := by kernel_rfl
theorem zl_whole (fi : Fi) (R : Type) (n : Int) (k : Value → Option R) : evFn (cxf fi Tryz.prog [] []) 60 68 [.int .i64 n] k = wholeGB fi R n fun x => k (.float .f64 x) := by kernel_rfl
theorem zl_fit (pl : KCFB) (R : Type) (a b r : Nat) (k : Value → Option R) : evFn (cx Tryz.prog [(135, sCFB pl)]) 60 128 [.agg ⟨[.complex .f64 a b, .float .f64 r]⟩] k = fitB pl R a b r fun t => k (.bool t) := by kernel_rfl
theorem zl_near (ab : KFF) (R : Type) (a b r : Nat) (k : Value → Option R) : evFn (cx Tryz.prog [(53, sFF ab)]) 60 66 [.float .f64 a, .float .f64 b, .float .f64 r] k = nearFB ab R a b r fun t => k (.bool t) := by kernel_rfl
theorem zl_side1 (sub : KCCC) (ln : KCF) (R : Type) (a b s1 s2 p c1 c2 r : Nat) (k : Value → Option R) : evFn (cx Tryz.prog [(21, sCCC sub), (38, sCF ln)]) 60 195 [el 1 a b s1 s2 p, .agg ⟨[.complex .f64 c1 c2, .float .f64 r]⟩] k =
  sideB sub ln R 1 a b c1 c2 r fun i => k (.int .i64 i) := by kernel_rfl
theorem zl_side2 (sub : KCCC) (ln : KCF) (R : Type) (a b s1 s2 p c1 c2 r : Nat) (k : Value → Option R) : evFn (cx Tryz.prog [(21, sCCC sub), (38, sCF ln)]) 60 195 [el 2 a b s1 s2 p, .agg ⟨[.complex .f64 c1 c2, .float .f64 r]⟩] k =
  sideB sub ln R 2 a b c1 c2 r fun i => k (.int .i64 i) := by kernel_rfl
theorem zl_side3 (sub : KCCC) (ln : KCF) (R : Type) (a b s1 s2 p c1 c2 r : Nat) (k : Value → Option R) : evFn (cx Tryz.prog [(21, sCCC sub), (38, sCF ln)]) 60 195 [el 3 a b s1 s2 p, .agg ⟨[.complex .f64 c1 c2, .float .f64 r]⟩] k =
  sideB sub ln R 3 a b c1 c2 r fun i => k (.int .i64 i) := by kernel_rfl
theorem zl_Pi (R : Type) (k : Value → Option R) : evFn (cx Tryz.prog []) 60 65 [] k = k (.tuple ⟨[.float .f64 4614256656552045848, .float .f64 4368955796522032135]⟩) := by kernel_rfl
theorem zl_mod (n2 : KFFF1) (n1 : KF1) (R : Type) (x : Nat) (k : Value → Option R) : evFn (cx Tryz.prog [(53, sFF absK), (112, sNot2 n2), (114, sNot1 n1), (229, sFr1000), (201, sNone)]) 60 69 [.float .f64 x, .float .f64 4652007308841189376] k =
  modE n2 n1 R x fun y => k (.float .f64 y) := by kernel_rfl
end Go.Vm
namespace Go.Vm
open Go.Proofs
set_option linter.unusedVariables false
set_option maxRecDepth 1000000
def cells3 (b1 b2 t1 t2 p1 a1 a2 s1 s2 p2 d1 d2 r1 r2 p3 : Nat) : List Value :=
  [.int .u8 1, .complex .f64 b1 b2, .complex .f64 t1 t2, .float .f64 p1, .int .u8 3, .complex .f64 a1 a2, .complex .f64 s1 s2, .float .f64 p2, .int .u8 2, .complex .f64 d1 d2, .complex .f64 r1 r2, .float .f64 p3]
theorem zl_cleanT (ei : KE1) (pl : KCFB) (sub : KCCC) (ln : KCF) (R : Type) (b1 b2 t1 t2 p1 a1 a2 s1 s2 p2 d1 d2 r1 r2 p3 c1 c2 r sz m : Nat) (k : Value → Option R) :
  evHeap (cx Tryz.prog [(199, sEI1 ei), (135, sCFB pl), (21, sCCC sub), (38, sCF ln)]) 100 192 [.agg ⟨[.slice (some ⟨0, 0, none⟩) 3 m]⟩, .agg ⟨[.complex .f64 c1 c2, .float .f64 r]⟩, .bool true]
    ⟨1, [(0, .cells (cells3 b1 b2 t1 t2 p1 a1 a2 s1 s2 p2 d1 d2 r1 r2 p3) sz)]⟩ k = cleanB ei pl sub ln R b1 b2 t1 t2 p1 a1 a2 s1 s2 p2 d1 d2 r1 r2 p3 c1 c2 r fun e => k (.int .i64 e) := by kernel_rfl
theorem zl_cleanF (ei : KE1) (pl : KCFB) (sub : KCCC) (ln : KCF) (R : Type) (b1 b2 t1 t2 p1 a1 a2 s1 s2 p2 d1 d2 r1 r2 p3 c1 c2 r sz m : Nat) (k : Value → Option R) :
  evHeap (cx Tryz.prog [(199, sEI1 ei), (135, sCFB pl), (21, sCCC sub), (38, sCF ln)]) 100 192 [.agg ⟨[.slice (some ⟨0, 0, none⟩) 3 m]⟩, .agg ⟨[.complex .f64 c1 c2, .float .f64 r]⟩, .bool false]
    ⟨1, [(0, .cells (cells3 b1 b2 t1 t2 p1 a1 a2 s1 s2 p2 d1 d2 r1 r2 p3) sz)]⟩ k = cleanB ei pl sub ln R b1 b2 t1 t2 p1 a1 a2 s1 s2 p2 d1 d2 r1 r2 p3 c1 c2 r fun e => k (.int .i64 e) := by kernel_rfl
end Go.Vm
