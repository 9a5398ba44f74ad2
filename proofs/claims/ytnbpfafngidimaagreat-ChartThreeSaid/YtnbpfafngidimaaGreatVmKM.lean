/- What the functions of packages math and roots compute, in Lean; no conditions. -/
import Derived.Test.YtnbpfafngidimaaGreatVmKF
namespace Go.Vm
open Ieee
set_option linter.unusedVariables false
set_option linter.unusedSimpArgs false

/-! ### Package math, roots: in continuation style -/
def andU (x y : Int) : Int := IntKind.u64.wrap ((BitVec.ofInt 64 x &&& BitVec.ofInt 64 y).toNat : Nat)
def andI (x y : Int) : Int := IntKind.i64.wrap ((BitVec.ofInt 64 x &&& BitVec.ofInt 64 y).toNat : Nat)
def andNotU (x y : Int) : Int := IntKind.u64.wrap ((BitVec.ofInt 64 x &&& ~~~(BitVec.ofInt 64 y)).toNat : Nat)
def orU (x y : Int) : Int := IntKind.u64.wrap ((BitVec.ofInt 64 x ||| BitVec.ofInt 64 y).toNat : Nat)

def shrU (x n : Int) : Int := x.fdiv (2 ^ min n.toNat IntKind.u64.bits)
def shlU (x n : Int) : Int := IntKind.u64.wrap (x * 2 ^ min n.toNat IntKind.u64.bits)

abbrev KFFI := ∀ R : Type, Nat → (Nat → Int → Option R) → Option R
abbrev KFIF := ∀ R : Type, Nat → Int → (Nat → Option R) → Option R
abbrev KCF := ∀ R : Type, Nat → Nat → (Nat → Option R) → Option R
abbrev KCCI := ∀ R : Type, Nat → Nat → (Nat → Nat → Int → Option R) → Option R
abbrev KCCFB := ∀ R : Type, Nat → Nat → Nat → Nat → Nat → (Bool → Option R) → Option R

def sInf (g : KFB) : Sum := fun R args k => match args with
  | [.float .f64 a, .int .i64 s] => bif s == 0 then g R a fun t => forceB t fun t => k (.bool t) else none
  | _ => none
def sFFI (g : KFFI) : Sum := fun R args k => match args with
  | [.float .f64 a] => g R a fun x e => k (.tuple ⟨[.float .f64 x, .int .i64 e]⟩)
  | _ => none
def sFIF (g : KFIF) : Sum := fun R args k => match args with
  | [.float .f64 a, .int .i64 e] => g R a e fun x => k (.float .f64 x)
  | _ => none
def sCF (g : KCF) : Sum := fun R args k => match args with
  | [.complex .f64 a b] => g R a b fun x => k (.float .f64 x)
  | _ => none
def sCCI (g : KCCI) : Sum := fun R args k => match args with
  | [.complex .f64 a b] => g R a b fun x y e => k (.tuple ⟨[.complex .f64 x y, .int .i64 e]⟩)
  | _ => none
def sCCFB (g : KCCFB) : Sum := fun R args k => match args with
  | [.complex .f64 a b, .complex .f64 c d, .float .f64 m] => g R a b c d m fun t => forceB t fun t => k (.bool t)
  | _ => none
/-- a function that is not to be come to -/
def sNever : Sum := fun R args k => none

def isInfB (ab : KFF) : KFB := fun R a k => ab R a fun x => forceB (gtF x 9218868437227405311) fun t => k t
def isNanK : KFB := fun R a k => forceB (neF a a) fun t => k t
def normB (ab : KFF) : KFFI := fun R a k => ab R a fun x => forceB (ltF x 4503599627370496) fun t => match t with
  | true => bindF (floatBits .mul .f64 a 4841369599423283200) fun y => k y (-52)
  | false => k a 0
def expoOf {R : Type} (fi : Fi) (y : Nat) (k : Int → Option R) : Option R := fi R (IntKind.i64.wrap (andU (shrU y 52) 2047)) k
def frexpTail {R : Type} (fi : Fi) (y : Nat) (e : Int) (k : Nat → Int → Option R) : Option R :=
  expoOf fi y fun n1 => fi R (IntKind.i64.wrap (n1 - 1023)) fun n2 => fi R (IntKind.i64.wrap (n2 + 1)) fun n3 => fi R (IntKind.i64.wrap (e + n3)) fun n4 =>
    k (orU (andNotU y 9218868437227405312) 4602678819172646912).toNat n4
def frexpB (fi : Fi) (inf nan : KFB) (nm : KFFI) : KFFI := fun R a k => forceB (eqF a 0) fun t => match t with
  | true => k a 0
  | false => inf R a fun t => forceB t fun t => match t with
    | true => k a 0
    | false => nan R a fun t => forceB t fun t => match t with
      | true => k a 0
      | false => nm R a fun y e => frexpTail fi y e k
def ldexpEnd {R : Type} (fi : Fi) (y : Nat) (ex : Int) (m : Nat) (k : Nat → Option R) : Option R :=
  fi R (IntKind.i64.wrap (ex + 1023)) fun n1 => fi R (IntKind.u64.wrap n1) fun n2 =>
    bindF (floatBits .mul .f64 m (orU (andNotU y 9218868437227405312) (shlU n2 52)).toNat) k
abbrev KFFF := ∀ R : Type, Nat → Nat → (Nat → Option R) → Option R
def sFFF (g : KFFF) : Sum := fun R args k => match args with
  | [.float .f64 a, .float .f64 b] => g R a b fun x => k (.float .f64 x)
  | _ => none
def copyK : KFFF := fun R a b k => k (orU (andNotU a 9223372036854775808) (andU b 9223372036854775808)).toNat
def ldexpTail {R : Type} (fi : Fi) (cp : KFFF) (y : Nat) (e n : Int) (k : Nat → Option R) : Option R :=
  fi R (IntKind.i64.wrap (n + e)) fun n1 => fi R (IntKind.i64.wrap (shrU y 52)) fun n2 => fi R (IntKind.i64.wrap (andI n2 2047 - 1023)) fun n3 => fi R (IntKind.i64.wrap (n1 + n3)) fun ex =>
    forceB (decide (ex < -1075)) fun t => match t with
    | true => cp R 0 y k
    | false => forceB (decide (ex > 1023)) fun t => match t with
      | true => forceB (ltF y 0) fun _ => none
      | false => forceB (decide (ex < -1022)) fun t => match t with
        | true => fi R (IntKind.i64.wrap (ex + 53)) fun ex => ldexpEnd fi y ex 4368491638549381120 k
        | false => ldexpEnd fi y ex 4607182418800017408 k
def ldexpB (fi : Fi) (cp : KFFF) (inf nan : KFB) (nm : KFFI) : KFIF := fun R a n k => forceB (eqF a 0) fun t => match t with
  | true => k a
  | false => inf R a fun t => forceB t fun t => match t with
    | true => k a
    | false => nan R a fun t => forceB t fun t => match t with
      | true => k a
      | false => nm R a fun y e => ldexpTail fi cp y e n k
def clampI (n : Int) : Int := if (if n < 5000 then n else 5000) > -5000 then (if n < 5000 then n else 5000) else -5000
def scaleB (ld : KFIF) : KFIF := fun R a n k => ld R a (clampI n) k
def greatestB (ab : KFF) : KCF := fun R a b k => ab R a fun x => ab R b fun y => forceB (gtF y x) fun t => match t with
  | true => k y
  | false => k x
def scaledB (gr : KCF) (pa : KFFI) (sc : KFIF) : KCCI := fun R a b k => gr R a b fun g => pa R g fun _ e =>
  sc R a (IntKind.i64.wrap (0 - e)) fun x => sc R b (IntKind.i64.wrap (0 - e)) fun y => k x y e
def squareK : KCF := fun R a b k => bindF (floatBits .mul .f64 a a) fun x => bindF (floatBits .mul .f64 b b) fun y => bindF (floatBits .add .f64 x y) k
def lengthB (inf nan : KFB) (gr : KCF) (sd : KCCI) (sq : KCF) (rt : KFF) (sc : KFIF) : KCF := fun R a b k =>
  inf R a fun t => forceB t fun t => match t with
  | true => none
  | false => inf R b fun t => forceB t fun t => match t with
    | true => none
    | false => nan R a fun t => forceB t fun t => match t with
      | true => none
      | false => nan R b fun t => forceB t fun t => match t with
        | true => none
        | false => gr R a b fun g => forceB (eqF g 0) fun t => match t with
          | true => k 0
          | false => sd R a b fun x y e => sq R x y fun s => rt R s fun r => sc R r e k
def nearB (sub : KCCC) (len : KCF) : KCCFB := fun R a b c d m k => sub R a b c d fun x y => len R x y fun l => forceB (leF l m) fun t => k t
def finiteB (ab : KFF) : KFB := fun R a k => ab R a fun x => forceB (leF x 9218868437227405311) fun t => k t
def FiniteB (fi : KFB) : KCB := fun R a b k => fi R a fun t => forceB t fun t => match t with
  | true => fi R b fun t => forceB t fun t => k t
  | false => k false
def divB (ab : KFF) : KCCC := fun R p q r s k =>
  ab R r fun x => ab R s fun y => forceB (geF x y) fun t => match t with
  | true => bindF (floatBits .quo .f64 s r) fun h => bindF (floatBits .mul .f64 s h) fun sh => bindF (floatBits .add .f64 r sh) fun t =>
      bindF (floatBits .mul .f64 q h) fun qh => bindF (floatBits .add .f64 p qh) fun n1 => bindF (floatBits .quo .f64 n1 t) fun re =>
      bindF (floatBits .mul .f64 p h) fun ph => bindF (floatBits .sub .f64 q ph) fun n2 => bindF (floatBits .quo .f64 n2 t) fun im => k re im
  | false => bindF (floatBits .quo .f64 r s) fun h => bindF (floatBits .mul .f64 r h) fun rh => bindF (floatBits .add .f64 rh s) fun t =>
      bindF (floatBits .mul .f64 p h) fun ph => bindF (floatBits .add .f64 ph q) fun n1 => bindF (floatBits .quo .f64 n1 t) fun re =>
      bindF (floatBits .mul .f64 q h) fun qh => bindF (floatBits .sub .f64 qh p) fun n2 => bindF (floatBits .quo .f64 n2 t) fun im => k re im
end Go.Vm
