/- The code of clean computes just what is told of it, of three elements that lie in memory; no conditions. -/
import Derived.Test.YtnbpfafngidimaaGreatVmZN0
namespace Go.Vm
open Go.Proofs
set_option linter.unusedVariables false
set_option maxRecDepth 1000000
def cells3 (b1 b2 t1 t2 p1 a1 a2 s1 s2 p2 d1 d2 r1 r2 p3 : Nat) : List Value :=
  [.int .u8 1, .complex .f64 b1 b2, .complex .f64 t1 t2, .float .f64 p1, .int .u8 3, .complex .f64 a1 a2, .complex .f64 s1 s2, .float .f64 p2, .int .u8 2, .complex .f64 d1 d2, .complex .f64 r1 r2, .float .f64 p3]
theorem zl_cleanT (ei : KE1) (pl : KCFB) (sub : KCCC) (ln : KCF) (R : Type) (b1 b2 t1 t2 p1 a1 a2 s1 s2 p2 d1 d2 r1 r2 p3 c1 c2 r sz m : Nat) (k : Value → Option R) :
  evHeap (cx Tryz.prog [(199, sEI1 ei), (135, sCFB pl), (21, sCCC sub), (38, sCF ln)]) 100 192 [.agg ⟨[.slice (some ⟨0, 0, none⟩) 3 m]⟩, .agg ⟨[.complex .f64 c1 c2, .float .f64 r]⟩, .bool true]
    ⟨1, [(0, .cells (cells3 b1 b2 t1 t2 p1 a1 a2 s1 s2 p2 d1 d2 r1 r2 p3) sz)]⟩ k = cleanB ei pl sub ln R b1 b2 t1 t2 p1 a1 a2 s1 s2 p2 d1 d2 r1 r2 p3 c1 c2 r fun e => k (.int .i64 e) := by kernel_rfl
theorem zl_cleanF (ei : KE1) (pl : KCFB) (sub : KCCC) (ln : KCF) (R : Type) (b1 b2 t1 t2 p1 a1 a2 s1 s2 p2 d1 d2 r1 r2 p3 c1 c2 r sz m : Nat) (k : Value → Option R) :
  evHeap (cx Tryz.prog [(199, sEI1 ei), (135, sCFB pl), (21, sCCC sub), (38, sCF ln)]) 100 192 [.agg ⟨[.slice (some ⟨0, 0, none⟩) 3 m]⟩, .agg ⟨[.complex .f64 c1 c2, .float .f64 r]⟩, .bool false]
    ⟨1, [(0, .cells (cells3 b1 b2 t1 t2 p1 a1 a2 s1 s2 p2 d1 d2 r1 r2 p3) sz)]⟩ k = cleanB ei pl sub ln R b1 b2 t1 t2 p1 a1 a2 s1 s2 p2 d1 d2 r1 r2 p3 c1 c2 r fun e => k (.int .i64 e) := by kernel_rfl
end Go.Vm
