/- What the small functions of floats compute, in Lean; no conditions. -/
import Derived.Test.YtnbpfafngidimaaGreatVmN
namespace Go.Vm
open Ieee
set_option linter.unusedVariables false
set_option linter.unusedSimpArgs false

/-! ### What the small functions compute, in continuation style -/
def eqF (a b : Nat) : Bool := double.order a b == some .eq
def neF (a b : Nat) : Bool := double.order a b != some .eq
def leF (a b : Nat) : Bool := double.order a b == some .lt || double.order a b == some .eq
def geF (a b : Nat) : Bool := double.order a b == some .gt || double.order a b == some .eq
def ltF (a b : Nat) : Bool := double.order a b == some .lt
def gtF (a b : Nat) : Bool := double.order a b == some .gt

def addK : KCCC := fun R a b c d k => bindF (floatBits .add .f64 a c) fun x => bindF (floatBits .add .f64 b d) fun y => k x y
def subK : KCCC := fun R a b c d k => bindF (floatBits .sub .f64 a c) fun x => bindF (floatBits .sub .f64 b d) fun y => k x y
def mulK : KCCC := fun R a b c d k =>
   bindF (floatBits .mul .f64 a c) fun x1 => bindF (floatBits .mul .f64 b d) fun x2 => bindF (floatBits .sub .f64 x1 x2) fun re =>
   bindF (floatBits .mul .f64 a d) fun x3 => bindF (floatBits .mul .f64 b c) fun x4 => bindF (floatBits .add .f64 x3 x4) fun im => k re im
def negK : KCC := fun R a b k => forceN (Op.negFloat .f64 a) fun x => forceN (Op.negFloat .f64 b) fun y => k x y
def likeK : KFFB := fun R a b k => forceB (eqF a b) fun t => match t with
  | true => k true
  | false => forceB (neF a a) fun t => match t with
    | true => forceB (neF b b) fun t => k t
    | false => k false
def LikeB (lk : KFFB) : KCCB := fun R a b c d k => lk R a c fun t => forceB t fun t => match t with
  | true => lk R b d fun t => forceB t fun t => k t
  | false => k false
def noughtK : KCB := fun R a b k => forceB (eqF a 0) fun t => match t with
  | true => forceB (eqF b 0) fun t => k t
  | false => k false
def absW (a : Nat) : Nat := (IntKind.u64.wrap ((BitVec.ofInt 64 a &&& ~~~(BitVec.ofInt 64 9223372036854775808)).toNat : Nat)).toNat
def absK : KFF := fun R a k => k (absW a)
def withinB (ab : KFF) : KFFB := fun R a m k => ab R a fun x => forceB (leF x m) fun t => k t
def WithinB (wi : KFFB) : KCFB := fun R a b m k => wi R a m fun t => forceB t fun t => match t with
  | true => wi R b m fun t => forceB t fun t => k t
  | false => k false
def placeB (wi : KCFB) : KCB := fun R a b k => wi R a b 4787326403894837248 fun t => forceB t fun t => k t
def bothB (mul add : KCCC) : ∀ R : Type, Nat → Nat → Nat → Nat → Nat → Nat → Nat → Nat → (Nat → Nat → Option R) → Option R := fun R a1 a2 b1 b2 c1 c2 d1 d2 k =>
  mul R a1 a2 b1 b2 fun x1 x2 => mul R c1 c2 d1 d2 fun y1 y2 => add R x1 x2 y1 y2 k
end Go.Vm
