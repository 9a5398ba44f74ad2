/- What the small functions of floats compute, in Lean; no conditions. What the functions of package chart compute, in Lean; no conditions. What ChartGroup computes, in Lean; no conditions. What the functions of packages math and roots compute, in Lean; no conditions. What logarithms and angles compute, as functions of words; no conditions. What ChartThree's functions compute, in Lean; no conditions. What ChartThere's functions compute, in Lean; no conditions. What the speeds of elements, and sines and cosines, compute as functions of words; no conditions. -/
import Derived.Test.YtnbpfafngidimaaGreatVmF0
namespace Go.Vm
open Ieee
set_option linter.unusedVariables false
set_option linter.unusedSimpArgs false

/-! ### What the small functions compute, in continuation style -/
def eqF (a b : Nat) : Bool := ordW a b == some .eq
def neF (a b : Nat) : Bool := ordW a b != some .eq
def leF (a b : Nat) : Bool := ordW a b == some .lt || ordW a b == some .eq
def geF (a b : Nat) : Bool := ordW a b == some .gt || ordW a b == some .eq
def ltF (a b : Nat) : Bool := ordW a b == some .lt
def gtF (a b : Nat) : Bool := ordW a b == some .gt

def addK : KCCC := fun R a b c d k => bindF (fbF .add a c) fun x => bindF (fbF .add b d) fun y => k x y
def subK : KCCC := fun R a b c d k => bindF (fbF .sub a c) fun x => bindF (fbF .sub b d) fun y => k x y
def mulK : KCCC := fun R a b c d k =>
   bindF (fbF .mul a c) fun x1 => bindF (fbF .mul b d) fun x2 => bindF (fbF .sub x1 x2) fun re =>
   bindF (fbF .mul a d) fun x3 => bindF (fbF .mul b c) fun x4 => bindF (fbF .add x3 x4) fun im => k re im
def negK : KCC := fun R a b k => forceN (Op.negFloat .f64 a) fun x => forceN (Op.negFloat .f64 b) fun y => k x y
def likeK : KFFB := fun R a b k => forceB (eqF a b) fun t => match t with
  | true => k true
  | false => forceB (neF a a) fun t => match t with
    | true => forceB (neF b b) fun t => k t
    | false => k false
def LikeB (lk : KFFB) : KCCB := fun R a b c d k => lk R a c fun t => forceB t fun t => match t with
  | true => lk R b d fun t => forceB t fun t => k t
  | false => k false
def noughtK : KCB := fun R a b k => forceB (eqF a 0) fun t => match t with
  | true => forceB (eqF b 0) fun t => k t
  | false => k false
def absW (a : Nat) : Nat := (IntKind.u64.wrap ((BitVec.ofInt 64 a &&& ~~~(BitVec.ofInt 64 9223372036854775808)).toNat : Nat)).toNat
def absK : KFF := fun R a k => k (absW a)
def withinB (ab : KFF) : KFFB := fun R a m k => ab R a fun x => forceB (leF x m) fun t => k t
def WithinB (wi : KFFB) : KCFB := fun R a b m k => wi R a m fun t => forceB t fun t => match t with
  | true => wi R b m fun t => forceB t fun t => k t
  | false => k false
def placeB (wi : KCFB) : KCB := fun R a b k => wi R a b 4787326403894837248 fun t => forceB t fun t => k t
def bothB (mul add : KCCC) : ∀ R : Type, Nat → Nat → Nat → Nat → Nat → Nat → Nat → Nat → (Nat → Nat → Option R) → Option R := fun R a1 a2 b1 b2 c1 c2 d1 d2 k =>
  mul R a1 a2 b1 b2 fun x1 x2 => mul R c1 c2 d1 d2 fun y1 y2 => add R x1 x2 y1 y2 k
end Go.Vm
namespace Go.Vm
open Ieee
set_option linter.unusedVariables false
set_option linter.unusedSimpArgs false

/-! ### Maps -/
structure Mp where
  a1 : Nat
  a2 : Nat
  b1 : Nat
  b2 : Nat
  c1 : Nat
  c2 : Nat
  d1 : Nat
  d2 : Nat
  p : Nat

def mv (i : Int) (m : Mp) : Value := .agg ⟨[.int .u8 i, .complex .f64 m.a1 m.a2, .complex .f64 m.b1 m.b2, .complex .f64 m.c1 m.c2, .complex .f64 m.d1 m.d2, .float .f64 m.p]⟩
def zm : Mp := ⟨0, 0, 0, 0, 0, 0, 0, 0, 0⟩

abbrev KMI := ∀ R : Type, Mp → (Int → Option R) → Option R
abbrev KMC := ∀ R : Type, Mp → (Nat → Nat → Option R) → Option R
abbrev KMM := ∀ R : Type, Mp → (Int → Option R) → (Mp → Option R) → Option R
abbrev KMMM := ∀ R : Type, Mp → Mp → (Int → Option R) → (Mp → Option R) → Option R
abbrev KMMB := ∀ R : Type, Mp → Mp → (Bool → Option R) → Option R
abbrev KC4 := ∀ R : Type, Nat → Nat → Nat → Nat → Nat → Nat → Nat → Nat → (Nat → Nat → Option R) → Option R

def oneM {R : Type} (v : Value) (k : Int → Mp → Option R) : Option R := match v with
  | .agg ⟨[.int .u8 i, .complex .f64 a1 a2, .complex .f64 b1 b2, .complex .f64 c1 c2, .complex .f64 d1 d2, .float .f64 p]⟩ => k i ⟨a1, a2, b1, b2, c1, c2, d1, d2, p⟩
  | _ => none
theorem oneM_some {R : Type} {v : Value} {k : Int → Mp → Option R} {r : R} (h : oneM v k = some r) : ∃ i m, v = mv i m ∧ k i m = some r := by
  unfold oneM at h
  split at h
  · exact ⟨_, _, rfl, h⟩
  · cases h

/-- Check, of the two first kinds. -/
def sChk (g1 g2 : KMI) : Sum := fun R args k => match args with
  | [v] => oneM v fun i m => bif (i == 1) then g1 R m fun e => k (.int .i64 e) else bif (i == 2) then g2 R m fun e => k (.int .i64 e) else none
  | _ => none
def sDet (g : KMC) : Sum := fun R args k => match args with
  | [v] => oneM v fun i m => bif (i == 1) then g R m fun x y => k (.complex .f64 x y) else none
  | _ => none
def sMM (g : KMM) : Sum := fun R args k => match args with
  | [v] => oneM v fun i m => bif (i == 1) then g R m (fun e => k (.tuple ⟨[mv 0 zm, .int .i64 e]⟩)) (fun m => k (.tuple ⟨[mv 1 m, .int .i64 0]⟩)) else none
  | _ => none
def sMMM (g : KMMM) : Sum := fun R args k => match args with
  | [v, u] => oneM v fun i m => oneM u fun j n => bif (i == 1) && (j == 1) then g R m n (fun e => k (.tuple ⟨[mv 0 zm, .int .i64 e]⟩)) (fun m => k (.tuple ⟨[mv 1 m, .int .i64 0]⟩)) else none
  | _ => none
def sMMB (g : KMMB) : Sum := fun R args k => match args with
  | [v, u] => oneM v fun i m => oneM u fun j n => bif (i == 1) && (j == 1) then g R m n fun t => forceB t fun t => k (.bool t) else none
  | _ => none
def sC4 (g : KC4) : Sum := fun R args k => match args with
  | [.complex .f64 a b, .complex .f64 c d, .complex .f64 a' b', .complex .f64 c' d'] => g R a b c d a' b' c' d' fun x y => k (.complex .f64 x y)
  | _ => none

/-- What Check asks of any kind. -/
def chkHead {R : Type} (pl no : KCB) (wi : KFFB) (m : Mp) (k : Int → Option R) (rest : Bool → Option R) : Option R :=
  pl R m.a1 m.a2 fun t => forceB t fun t => match t with
  | false => k 5
  | true => pl R m.b1 m.b2 fun t => forceB t fun t => match t with
    | false => k 5
    | true => pl R m.c1 m.c2 fun t => forceB t fun t => match t with
      | false => k 5
      | true => pl R m.d1 m.d2 fun t => forceB t fun t => match t with
        | false => k 5
        | true => wi R m.p 4787326403894837248 fun t => forceB t fun t => match t with
          | false => k 5
          | true => no R m.a1 m.a2 fun t => forceB t fun t => match t with
            | true => rest false
            | false => no R m.c1 m.c2 fun t => forceB t fun t => match t with
              | false => rest false
              | true => no R m.d1 m.d2 fun t => forceB t fun t => rest t

def chk1B (pl no : KCB) (wi : KFFB) (det : KMC) : KMI := fun R m k => chkHead pl no wi m k fun _ =>
  forceB (eqF m.p 0) fun t => match t with
  | false => k 180
  | true => det R m fun x y => no R x y fun t => forceB t fun t => match t with
    | true => k 180
    | false => k 0

def chk2B (pl no : KCB) (wi : KFFB) : KMI := fun R m k => chkHead pl no wi m k fun alone =>
  forceB (eqF m.p 0) fun t => match t with
  | false => k 180
  | true => match alone with
    | false => k 180
    | true => no R m.b1 m.b2 fun t => forceB t fun t => match t with
      | true => k 0
      | false => k 180

def detB (mul sub : KCCC) : KMC := fun R m k => mul R m.a1 m.a2 m.d1 m.d2 fun x y => mul R m.b1 m.b2 m.c1 m.c2 fun u v => sub R x y u v k

def toldB (chk : KMI) : KMM := fun R m ke k => chk R m fun e => forceB (e != 0) fun t => match t with
  | true => ke e
  | false => k m

def thenB (chk : KMI) (both : KC4) (told : KMM) : KMMM := fun R m n ke k =>
  chk R m fun e => forceB (e != 0) fun t => match t with
  | true => ke e
  | false => chk R n fun e => forceB (e != 0) fun t => match t with
    | true => ke e
    | false =>
      both R n.a1 n.a2 m.a1 m.a2 n.b1 n.b2 m.c1 m.c2 fun a1 a2 =>
      both R n.a1 n.a2 m.b1 m.b2 n.b1 n.b2 m.d1 m.d2 fun b1 b2 =>
      both R n.c1 n.c2 m.a1 m.a2 n.d1 n.d2 m.c1 m.c2 fun c1 c2 =>
      both R n.c1 n.c2 m.b1 m.b2 n.d1 n.d2 m.d1 m.d2 fun d1 d2 =>
      told R ⟨a1, a2, b1, b2, c1, c2, d1, d2, 0⟩ ke k

def turnedB (chk : KMI) (neg : KCC) (told : KMM) : KMM := fun R m ke k =>
  chk R m fun e => forceB (e != 0) fun t => match t with
  | true => ke e
  | false => neg R m.b1 m.b2 fun x y => neg R m.c1 m.c2 fun u v => told R ⟨m.d1, m.d2, x, y, u, v, m.a1, m.a2, 0⟩ ke k

def alikeB (lk : KCCB) : KMMB := fun R m n k =>
  lk R m.a1 m.a2 n.a1 n.a2 fun t => forceB t fun t => match t with
  | false => k false
  | true => lk R m.b1 m.b2 n.b1 n.b2 fun t => forceB t fun t => match t with
    | false => k false
    | true => lk R m.c1 m.c2 n.c1 n.c2 fun t => forceB t fun t => match t with
      | false => k false
      | true => lk R m.d1 m.d2 n.d1 n.d2 fun t => forceB t fun t => k t

/-! ### Whole numbers -/
def upK {R : Type} (x y : Int) (k : Bool → Option R) : Option R :=
  forceB (decide (x ≥ -8)) fun t => match t with
  | false => k false
  | true => forceB (decide (x ≤ 8)) fun t => match t with
    | false => k false
    | true => forceB (decide (y ≥ -8)) fun t => match t with
      | false => k false
      | true => forceB (decide (y ≤ 8)) fun t => k t
def ofK {R : Type} (x y : Int) (k : Nat → Nat → Option R) : Option R := forceN (floatOfInt .f64 x) fun a => forceN (floatOfInt .f64 y) fun b => k a b
abbrev KGB := ∀ R : Type, Int → Int → (Bool → Option R) → Option R
abbrev KGC := ∀ R : Type, Int → Int → (Nat → Nat → Option R) → Option R
def sUp (g : KGB) : Sum := fun R args k => match args with
  | [.agg ⟨[.int .i16 x, .int .i16 y]⟩, .int .i16 to] => bif (to == 8) then g R x y fun t => forceB t fun t => k (.bool t) else none
  | _ => none
def sOf (g : KGC) : Sum := fun R args k => match args with
  | [.agg ⟨[.int .i16 x, .int .i16 y]⟩] => g R x y fun a b => k (.complex .f64 a b)
  | _ => none

structure Fr where
  a1 : Int
  a2 : Int
  b1 : Int
  b2 : Int
  c1 : Int
  c2 : Int
  d1 : Int
  d2 : Int
def fv (f : Fr) : Value := .agg ⟨[.int .i16 f.a1, .int .i16 f.a2, .int .i16 f.b1, .int .i16 f.b2, .int .i16 f.c1, .int .i16 f.c2, .int .i16 f.d1, .int .i16 f.d2]⟩
def oneF {R : Type} (v : Value) (k : Fr → Option R) : Option R := match v with
  | .agg ⟨[.int .i16 a1, .int .i16 a2, .int .i16 b1, .int .i16 b2, .int .i16 c1, .int .i16 c2, .int .i16 d1, .int .i16 d2]⟩ => k ⟨a1, a2, b1, b2, c1, c2, d1, d2⟩
  | _ => none
theorem oneF_some {R : Type} {v : Value} {k : Fr → Option R} {r : R} (h : oneF v k = some r) : ∃ f, v = fv f ∧ k f = some r := by
  unfold oneF at h
  split at h
  · exact ⟨_, rfl, h⟩
  · cases h
abbrev KFrM := ∀ R : Type, Fr → (Mp → Option R) → Option R
abbrev KFrB := ∀ R : Type, Fr → (Bool → Option R) → Option R
def sFrM (g : KFrM) : Sum := fun R args k => match args with
  | [v] => oneF v fun f => g R f fun m => k (mv 1 m)
  | _ => none
def sFrB (g : KFrB) : Sum := fun R args k => match args with
  | [v] => oneF v fun f => g R f fun t => forceB t fun t => k (.bool t)
  | _ => none
def smallB (up : KGB) : KFrB := fun R f k => up R f.a1 f.a2 fun t => forceB t fun t => match t with
  | false => k false
  | true => up R f.b1 f.b2 fun t => forceB t fun t => match t with
    | false => k false
    | true => up R f.c1 f.c2 fun t => forceB t fun t => match t with
      | false => k false
      | true => up R f.d1 f.d2 fun t => forceB t fun t => k t
def frB (of_ : KGC) : KFrM := fun R f k => of_ R f.a1 f.a2 fun a1 a2 => of_ R f.b1 f.b2 fun b1 b2 => of_ R f.c1 f.c2 fun c1 c2 => of_ R f.d1 f.d2 fun d1 d2 => k ⟨a1, a2, b1, b2, c1, c2, d1, d2, 0⟩
end Go.Vm
namespace Go.Vm
open Ieee
set_option linter.unusedVariables false
set_option linter.unusedSimpArgs false

def gRest {R : Type} (lk : KCCB) (n : Mp) (x y : Nat) (k : Bool → Option R) : Option R :=
  lk R n.a1 n.a2 x y fun t => forceB t fun t => match t with
  | false => k false
  | true => lk R n.d1 n.d2 x y fun t => forceB t fun t => match t with
    | false => k false
    | true => forceB (eqF n.b1 0) fun s => forceB (eqF n.b2 0) fun t => match s && t with
      | false => k false
      | true => forceB (eqF n.c1 0) fun s => forceB (eqF n.c2 0) fun t => k (s && t)

def gTail {R : Type} (mul sub : KCCC) (lk : KCCB) (l n : Mp) (e : Int) (k : Bool → Option R) : Option R :=
  mul R l.a1 l.a2 l.d1 l.d2 fun x1 x2 => mul R l.b1 l.b2 l.c1 l.c2 fun y1 y2 => sub R x1 x2 y1 y2 fun d1 d2 =>
  forceB (e == 0) fun t => match t with
  | false => k false
  | true => gRest lk n d1 d2 k

def groupB (small : KFrB) (fr : KFrM) (chk : KMI) (thn : KMMM) (alike : KMMB) (turned : KMM) (mul sub : KCCC) (lk : KCCB) : ∀ R : Type, Fr → Fr → Fr → (Bool → Option R) → Option R := fun R f g h k =>
  fr R f fun l => fr R g fun m => fr R h fun n =>
  small R f fun t => forceB t fun t => match t with
  | false => k true
  | true => small R g fun t => forceB t fun t => match t with
    | false => k true
    | true => small R h fun t => forceB t fun t => match t with
      | false => k true
      | true => chk R l fun e => forceB (e != 0) fun t => match t with
        | true => k true
        | false => chk R m fun e => forceB (e != 0) fun t => match t with
          | true => k true
          | false => chk R n fun e => forceB (e != 0) fun t => match t with
            | true => k true
            | false =>
              thn R l m (fun _ => thn R m n (fun _ => none) (fun _ => none)) fun lm =>
              thn R m n (fun _ => thn R lm n (fun _ => none) (fun _ => none)) fun mn =>
              thn R lm n (fun e3 => thn R l mn
                  (fun e4 => forceB (e3 != 0) fun t => match t with | true => k false | false => forceB (e4 != 0) fun t => match t with | true => k false | false => none)
                  (fun _ => forceB (e3 != 0) fun t => match t with | true => k false | false => none)) fun left =>
              thn R l mn (fun e4 => forceB (e4 != 0) fun t => match t with | true => k false | false => none) fun right =>
              alike R left right fun t => forceB t fun t => match t with
              | false => k false
              | true => turned R l (fun _ => none) fun back =>
                thn R l back (fun e => gTail mul sub lk l zm e k) fun nn => gTail mul sub lk l nn 0 k
end Go.Vm
namespace Go.Vm
open Ieee
set_option linter.unusedVariables false
set_option linter.unusedSimpArgs false

/-! ### Package math, roots: in continuation style -/
def andU (x y : Int) : Int := IntKind.u64.wrap ((BitVec.ofInt 64 x &&& BitVec.ofInt 64 y).toNat : Nat)
def andI (x y : Int) : Int := IntKind.i64.wrap ((BitVec.ofInt 64 x &&& BitVec.ofInt 64 y).toNat : Nat)
def andNotU (x y : Int) : Int := IntKind.u64.wrap ((BitVec.ofInt 64 x &&& ~~~(BitVec.ofInt 64 y)).toNat : Nat)
def orU (x y : Int) : Int := IntKind.u64.wrap ((BitVec.ofInt 64 x ||| BitVec.ofInt 64 y).toNat : Nat)

def shrU (x n : Int) : Int := x.fdiv (2 ^ min n.toNat IntKind.u64.bits)
def shlU (x n : Int) : Int := IntKind.u64.wrap (x * 2 ^ min n.toNat IntKind.u64.bits)

abbrev KFFI := ∀ R : Type, Nat → (Nat → Int → Option R) → Option R
abbrev KFIF := ∀ R : Type, Nat → Int → (Nat → Option R) → Option R
abbrev KCF := ∀ R : Type, Nat → Nat → (Nat → Option R) → Option R
abbrev KCCI := ∀ R : Type, Nat → Nat → (Nat → Nat → Int → Option R) → Option R
abbrev KCCFB := ∀ R : Type, Nat → Nat → Nat → Nat → Nat → (Bool → Option R) → Option R

def sInf (g : KFB) : Sum := fun R args k => match args with
  | [.float .f64 a, .int .i64 s] => bif s == 0 then g R a fun t => forceB t fun t => k (.bool t) else none
  | _ => none
def sFFI (g : KFFI) : Sum := fun R args k => match args with
  | [.float .f64 a] => g R a fun x e => k (.tuple ⟨[.float .f64 x, .int .i64 e]⟩)
  | _ => none
def sFIF (g : KFIF) : Sum := fun R args k => match args with
  | [.float .f64 a, .int .i64 e] => g R a e fun x => k (.float .f64 x)
  | _ => none
def sCF (g : KCF) : Sum := fun R args k => match args with
  | [.complex .f64 a b] => g R a b fun x => k (.float .f64 x)
  | _ => none
def sCCI (g : KCCI) : Sum := fun R args k => match args with
  | [.complex .f64 a b] => g R a b fun x y e => k (.tuple ⟨[.complex .f64 x y, .int .i64 e]⟩)
  | _ => none
def sCCFB (g : KCCFB) : Sum := fun R args k => match args with
  | [.complex .f64 a b, .complex .f64 c d, .float .f64 m] => g R a b c d m fun t => forceB t fun t => k (.bool t)
  | _ => none
/-- a function that is not to be come to -/
def sNever : Sum := fun R args k => none

def isInfB (ab : KFF) : KFB := fun R a k => ab R a fun x => forceB (gtF x 9218868437227405311) fun t => k t
def isNanK : KFB := fun R a k => forceB (neF a a) fun t => k t
def normB (ab : KFF) : KFFI := fun R a k => ab R a fun x => forceB (ltF x 4503599627370496) fun t => match t with
  | true => bindF (fbF .mul a 4841369599423283200) fun y => k y (-52)
  | false => k a 0
def expoOf {R : Type} (fi : Fi) (y : Nat) (k : Int → Option R) : Option R := fi R (IntKind.i64.wrap (andU (shrU y 52) 2047)) k
def frexpTail {R : Type} (fi : Fi) (y : Nat) (e : Int) (k : Nat → Int → Option R) : Option R :=
  expoOf fi y fun n1 => fi R (IntKind.i64.wrap (n1 - 1023)) fun n2 => fi R (IntKind.i64.wrap (n2 + 1)) fun n3 => fi R (IntKind.i64.wrap (e + n3)) fun n4 =>
    k (orU (andNotU y 9218868437227405312) 4602678819172646912).toNat n4
def frexpB (fi : Fi) (inf nan : KFB) (nm : KFFI) : KFFI := fun R a k => forceB (eqF a 0) fun t => match t with
  | true => k a 0
  | false => inf R a fun t => forceB t fun t => match t with
    | true => k a 0
    | false => nan R a fun t => forceB t fun t => match t with
      | true => k a 0
      | false => nm R a fun y e => frexpTail fi y e k
def ldexpEnd {R : Type} (fi : Fi) (y : Nat) (ex : Int) (m : Nat) (k : Nat → Option R) : Option R :=
  fi R (IntKind.i64.wrap (ex + 1023)) fun n1 => fi R (IntKind.u64.wrap n1) fun n2 =>
    bindF (fbF .mul m (orU (andNotU y 9218868437227405312) (shlU n2 52)).toNat) k
abbrev KFFF := ∀ R : Type, Nat → Nat → (Nat → Option R) → Option R
def sFFF (g : KFFF) : Sum := fun R args k => match args with
  | [.float .f64 a, .float .f64 b] => g R a b fun x => k (.float .f64 x)
  | _ => none
def copyK : KFFF := fun R a b k => k (orU (andNotU a 9223372036854775808) (andU b 9223372036854775808)).toNat
def ldexpTail {R : Type} (fi : Fi) (cp : KFFF) (y : Nat) (e n : Int) (k : Nat → Option R) : Option R :=
  fi R (IntKind.i64.wrap (n + e)) fun n1 => fi R (IntKind.i64.wrap (shrU y 52)) fun n2 => fi R (IntKind.i64.wrap (andI n2 2047 - 1023)) fun n3 => fi R (IntKind.i64.wrap (n1 + n3)) fun ex =>
    forceB (decide (ex < -1075)) fun t => match t with
    | true => cp R 0 y k
    | false => forceB (decide (ex > 1023)) fun t => match t with
      | true => forceB (ltF y 0) fun _ => none
      | false => forceB (decide (ex < -1022)) fun t => match t with
        | true => fi R (IntKind.i64.wrap (ex + 53)) fun ex => ldexpEnd fi y ex 4368491638549381120 k
        | false => ldexpEnd fi y ex 4607182418800017408 k
def ldexpB (fi : Fi) (cp : KFFF) (inf nan : KFB) (nm : KFFI) : KFIF := fun R a n k => forceB (eqF a 0) fun t => match t with
  | true => k a
  | false => inf R a fun t => forceB t fun t => match t with
    | true => k a
    | false => nan R a fun t => forceB t fun t => match t with
      | true => k a
      | false => nm R a fun y e => ldexpTail fi cp y e n k
def clampI (n : Int) : Int := if (if n < 5000 then n else 5000) > -5000 then (if n < 5000 then n else 5000) else -5000
def scaleB (ld : KFIF) : KFIF := fun R a n k => ld R a (clampI n) k
def greatestB (ab : KFF) : KCF := fun R a b k => ab R a fun x => ab R b fun y => forceB (gtF y x) fun t => match t with
  | true => k y
  | false => k x
def scaledB (gr : KCF) (pa : KFFI) (sc : KFIF) : KCCI := fun R a b k => gr R a b fun g => pa R g fun _ e =>
  sc R a (IntKind.i64.wrap (0 - e)) fun x => sc R b (IntKind.i64.wrap (0 - e)) fun y => k x y e
def squareK : KCF := fun R a b k => bindF (fbF .mul a a) fun x => bindF (fbF .mul b b) fun y => bindF (fbF .add x y) k
def lengthB (inf nan : KFB) (gr : KCF) (sd : KCCI) (sq : KCF) (rt : KFF) (sc : KFIF) : KCF := fun R a b k =>
  inf R a fun t => forceB t fun t => match t with
  | true => none
  | false => inf R b fun t => forceB t fun t => match t with
    | true => none
    | false => nan R a fun t => forceB t fun t => match t with
      | true => none
      | false => nan R b fun t => forceB t fun t => match t with
        | true => none
        | false => gr R a b fun g => forceB (eqF g 0) fun t => match t with
          | true => k 0
          | false => sd R a b fun x y e => sq R x y fun s => rt R s fun r => sc R r e k
def nearB (sub : KCCC) (len : KCF) : KCCFB := fun R a b c d m k => sub R a b c d fun x y => len R x y fun l => forceB (leF l m) fun t => k t
def finiteB (ab : KFF) : KFB := fun R a k => ab R a fun x => forceB (leF x 9218868437227405311) fun t => k t
def FiniteB (fi : KFB) : KCB := fun R a b k => fi R a fun t => forceB t fun t => match t with
  | true => fi R b fun t => forceB t fun t => k t
  | false => k false
def divB (ab : KFF) : KCCC := fun R p q r s k =>
  ab R r fun x => ab R s fun y => forceB (geF x y) fun t => match t with
  | true => bindF (fbF .quo s r) fun h => bindF (fbF .mul s h) fun sh => bindF (fbF .add r sh) fun t =>
      bindF (fbF .mul q h) fun qh => bindF (fbF .add p qh) fun n1 => bindF (fbF .quo n1 t) fun re =>
      bindF (fbF .mul p h) fun ph => bindF (fbF .sub q ph) fun n2 => bindF (fbF .quo n2 t) fun im => k re im
  | false => bindF (fbF .quo r s) fun h => bindF (fbF .mul r h) fun rh => bindF (fbF .add rh s) fun t =>
      bindF (fbF .mul p h) fun ph => bindF (fbF .add ph q) fun n1 => bindF (fbF .quo n1 t) fun re =>
      bindF (fbF .mul q h) fun qh => bindF (fbF .sub qh p) fun n2 => bindF (fbF .quo n2 t) fun im => k re im
end Go.Vm
namespace Go.Vm
open Ieee
set_option linter.unusedVariables false
set_option linter.unusedSimpArgs false

/-! ### Logarithms and angles -/
def sPi : Sum := fun R args k => match args with
  | [] => k (.tuple ⟨[.float .f64 4614256656552045848, .float .f64 4368955796522032135]⟩)
  | _ => none
def sInfW2 : Sum := fun R args k => match args with
  | [.int .i64 s] => bif s == 1 then k (.float .f64 9218868437227405312) else bif s == -1 then k (.float .f64 18442240474082181120) else none
  | _ => none
/-- s := r - z s, for each r -/
def series {R : Type} (z : Nat) : List Nat → Nat → (Nat → Option R) → Option R
  | [], s, k => k s
  | r :: rs, s, k => bindF (fbF .mul z s) fun p => bindF (fbF .sub r p) fun s => series z rs s k
def seriesP {R : Type} (z : Nat) : List Nat → Nat → (Nat → Option R) → Option R
  | [], s, k => k s
  | r :: rs, s, k => bindF (fbF .mul z s) fun p => bindF (fbF .add r p) fun s => seriesP z rs s k
def coreList : List Nat := [4581539473982948665, 4581789782603141207, 4582062340878461975, 4582360253411952116, 4582687230582855930, 4583047743873852442, 4583447231574686416, 4583892375012758557, 4584391475231203080, 4584809698070499460, 4585130310279789462, 4585498420594159464, 4585925428558828667, 4586426698778222948, 4587023449039406616, 4587745830934523688, 4588638185040256542, 4589468260265693457, 4590207312512236308, 4591215111030249286, 4592670820000712476, 4594314991293244562, 4596373779694328218, 4599676419421066581, 4607182418800017408]
def oddList : List Nat := [4586426698778222948, 4587023449039406616, 4587745830934523688, 4588638185040256542, 4589468260265693457, 4590207312512236308, 4591215111030249286, 4592670820000712476, 4594314991293244562, 4596373779694328218, 4599676419421066581]
def coreK : KFF := fun R t k => forceB (gtF t 4601130706800738304) fun far => match far with
  | true => bindF (fbF .sub t 4607182418800017408) fun d => bindF (fbF .add t 4607182418800017408) fun e => bindF (fbF .quo d e) fun u =>
      bindF (fbF .mul u u) fun z => series z coreList 0 fun s => bindF (fbF .mul u s) fun v => bindF (fbF .add v 4359948597267291143) fun x => bindF (fbF .add 4605249457297304856 x) k
  | false => bindF (fbF .mul t t) fun z => series z coreList 0 fun s => bindF (fbF .mul t s) k
def oddK : KFF := fun R f k => bindF (fbF .mul f f) fun s => seriesP s oddList 4585925428558828667 fun q =>
  bindF (fbF .mul 4611686018427387904 f) fun a => bindF (fbF .mul s q) fun x => bindF (fbF .mul a x) fun y => bindF (fbF .add a y) k
def logB (fi : Fi) (infP : KFB) (pa : KFFI) (odd : KFF) : KFF := fun R x k => forceB (neF x x) fun t => match t with
  | true => k x
  | false => infP R x fun t => forceB t fun t => match t with
    | true => k x
    | false => forceB (ltF x 0) fun t => match t with
      | true => none
      | false => forceB (eqF x 0) fun t => match t with
        | true => k 18442240474082181120
        | false => pa R x fun m e =>
          let rest : Nat → Int → Option R := fun m e => forceN (floatOfInt .f64 e) fun n => bindF (fbF .mul n 4604418534311723008) fun h => bindF (fbF .mul n 4461442080421002358) fun l =>
            bindF (fbF .sub m 4607182418800017408) fun p => bindF (fbF .add m 4607182418800017408) fun q => bindF (fbF .quo p q) fun f => odd R f fun o => bindF (fbF .add l o) fun x => bindF (fbF .add h x) k
          forceB (ltF m 4604544271217802189) fun t => match t with
          | true => bindF (fbF .mul 4611686018427387904 m) fun m => fi R (IntKind.i64.wrap (e - 1)) fun e => rest m e
          | false => rest m e
def signB (fi : Fi) : KFB := fun R x k => fi R (IntKind.i64.wrap (x : Int)) fun n => forceB (decide (n < 0)) fun t => k t
def minusB (sg : KFB) : KFB := fun R x k => forceB (eqF x x) fun t => match t with
  | true => sg R x fun t => forceB t fun t => k t
  | false => k false
def signedB (mi : KFB) (ab : KFF) : KFFF := fun R a b k => mi R b fun t => forceB t fun t => match t with
  | true => ab R a fun x => forceN (Op.negFloat .f64 x) k
  | false => ab R a k
def angleB (ab : KFF) (infP : KFB) (core : KFF) (mi : KFB) (sd : KFFF) : KFFF := fun R y x k => forceB (neF y y) fun t => match t with
  | true => none
  | false => forceB (neF x x) fun t => match t with
    | true => none
    | false => ab R y fun p => ab R x fun q =>
      let rest : Nat → Option R := fun b => mi R x fun t => forceB t fun t => match t with
        | true => bindF (fbF .sub b 4368955796522032135) fun c => bindF (fbF .sub 4614256656552045848 c) fun b => sd R b y k
        | false => sd R b y k
      let three : Option R := forceB (leF p q) fun t => match t with
        | true => bindF (fbF .quo p q) fun t => core R t rest
        | false => bindF (fbF .quo q p) fun t => core R t fun c => bindF (fbF .sub c 4364452196894661639) fun d => bindF (fbF .sub 4609753056924675352 d) rest
      forceB (eqF p 0) fun t => match t with
      | true => rest 0
      | false => forceB (eqF p q) fun t => match t with
        | true => infP R p fun t => forceB t fun t => match t with
          | true => rest 4605249457297304856
          | false => three
        | false => three
def powLogB (len : KCF) (lg : KFF) (an : KFFF) : KCC := fun R a b k => len R a b fun l => lg R l fun x => an R b a fun y => k x y
end Go.Vm
namespace Go.Vm
open Ieee
set_option linter.unusedVariables false
set_option linter.unusedSimpArgs false

/-! ### Three places -/
structure T3 where
  a1 : Nat
  a2 : Nat
  b1 : Nat
  b2 : Nat
  c1 : Nat
  c2 : Nat
def tv (t : T3) : Value := .agg ⟨[.complex .f64 t.a1 t.a2, .complex .f64 t.b1 t.b2, .complex .f64 t.c1 t.c2]⟩
def oneT {R : Type} (v : Value) (k : T3 → Option R) : Option R := match v with
  | .agg ⟨[.complex .f64 a1 a2, .complex .f64 b1 b2, .complex .f64 c1 c2]⟩ => k ⟨a1, a2, b1, b2, c1, c2⟩
  | _ => none
theorem oneT_some {R : Type} {v : Value} {k : T3 → Option R} {r : R} (h : oneT v k = some r) : ∃ f, v = tv f ∧ k f = some r := by
  unfold oneT at h
  split at h
  · exact ⟨_, rfl, h⟩
  · cases h

/-- an error's number, told from a list -/
def errIn {R : Type} : List Int → Int → (Int → Option R) → Option R
  | [], _, _ => none
  | c :: cs, e, ke => forceB (e == c) fun t => match t with
    | true => ke c
    | false => errIn cs e ke
theorem errIn_some {R : Type} : ∀ {l : List Int} {e : Int} {ke : Int → Option R} {r : R}, errIn l e ke = some r → ke e = some r
  | [], _, _, _, h => by cases h
  | c :: cs, e, ke, r, h => by
    unfold errIn at h
    rw [forceB_eq] at h
    cases hb : (e == c) with
    | true =>
      rw [hb] at h
      have : e = c := by simpa using hb
      rw [this]; exact h
    | false => rw [hb] at h; exact errIn_some h
theorem errIn_eq {R : Type} {l : List Int} {e : Int} (ke : Int → Option R) (h : l.contains e = true) : errIn l e ke = ke e := by
  induction l with
  | nil => simp at h
  | cons c cs ih =>
    unfold errIn
    rw [forceB_eq]
    cases hb : (e == c) with
    | true =>
      have : e = c := by simpa using hb
      subst this; rfl
    | false =>
      simp only
      refine ih ?_
      simp only [List.contains_cons, hb, Bool.false_or] at h
      exact h

def mErr {R : Type} (k : Value → Option R) (e : Int) : Option R := errIn [5, 180] e fun e => k (.tuple ⟨[mv 0 zm, .int .i64 e]⟩)
def mOk {R : Type} (k : Value → Option R) (m : Mp) : Option R := k (.tuple ⟨[mv 1 m, .int .i64 0]⟩)
def zErr {R : Type} (k : Value → Option R) (e : Int) : Option R := errIn [5, 6, 180] e fun e => k (.tuple ⟨[.complex .f64 0 0, .int .i64 e]⟩)
def zOk {R : Type} (k : Value → Option R) (x y : Nat) : Option R := k (.tuple ⟨[.complex .f64 x y, .int .i64 0]⟩)

abbrev KTB := ∀ R : Type, T3 → (Bool → Option R) → Option R
abbrev KTM := ∀ R : Type, T3 → (Int → Option R) → (Mp → Option R) → Option R
abbrev KTTM := ∀ R : Type, T3 → T3 → (Int → Option R) → (Mp → Option R) → Option R
abbrev KMZ := ∀ R : Type, Mp → Nat → Nat → (Int → Option R) → (Nat → Nat → Option R) → Option R
abbrev KMZC := ∀ R : Type, Mp → Nat → Nat → (Nat → Nat → Option R) → Option R

def sTB (g : KTB) : Sum := fun R args k => match args with
  | [v] => oneT v fun l => g R l fun t => forceB t fun t => k (.bool t)
  | _ => none
def sTM (g : KTM) : Sum := fun R args k => match args with
  | [v] => oneT v fun l => g R l (mErr k) (mOk k)
  | _ => none
def sTTM (g : KTTM) : Sum := fun R args k => match args with
  | [v, u] => oneT v fun l => oneT u fun n => g R l n (mErr k) (mOk k)
  | _ => none
def sMM2 (g : KMM) : Sum := fun R args k => match args with
  | [v] => oneM v fun i m => bif i == 1 then g R m (mErr k) (mOk k) else none
  | _ => none
def sMMM2 (g : KMMM) : Sum := fun R args k => match args with
  | [v, u] => oneM v fun i m => oneM u fun j n => bif i == 1 && j == 1 then g R m n (mErr k) (mOk k) else none
  | _ => none
def sMZ (g : KMZ) : Sum := fun R args k => match args with
  | [v, .complex .f64 a b] => oneM v fun i m => bif i == 1 then g R m a b (zErr k) (zOk k) else none
  | _ => none
def sMZC (g : KMZC) : Sum := fun R args k => match args with
  | [v, .complex .f64 a b] => oneM v fun i m => bif i == 1 then g R m a b fun x y => k (.complex .f64 x y) else none
  | _ => none

def unlikeB (lk : KCCB) : KTB := fun R l k => lk R l.a1 l.a2 l.b1 l.b2 fun t => forceB t fun t => match t with
  | true => k false
  | false => lk R l.b1 l.b2 l.c1 l.c2 fun t => forceB t fun t => match t with
    | true => k false
    | false => lk R l.c1 l.c2 l.a1 l.a2 fun t => forceB t fun t => k (!t)

def threeB (sub mul : KCCC) (neg : KCC) (told : KMM) : KTM := fun R l ke k =>
  sub R l.b1 l.b2 l.c1 l.c2 fun a1 a2 => sub R l.b1 l.b2 l.a1 l.a2 fun c1 c2 =>
  mul R l.a1 l.a2 a1 a2 fun x1 x2 => neg R x1 x2 fun b1 b2 => mul R l.c1 l.c2 c1 c2 fun y1 y2 => neg R y1 y2 fun d1 d2 =>
  told R ⟨a1, a2, b1, b2, c1, c2, d1, d2, 0⟩ ke k

def placesB {R : Type} (pl : KCB) (l : T3) (ke : Int → Option R) (k : Option R) : Option R :=
  pl R l.a1 l.a2 fun t => forceB t fun t => match t with
  | false => ke 5
  | true => pl R l.b1 l.b2 fun t => forceB t fun t => match t with
    | false => ke 5
    | true => pl R l.c1 l.c2 fun t => forceB t fun t => match t with
      | false => ke 5
      | true => k

def ThreeB (pl : KCB) (un : KTB) (th : KTM) (tu : KMM) (thn : KMMM) : KTTM := fun R l n ke k =>
  placesB pl l ke (placesB pl n ke (un R l fun t => forceB t fun t => match t with
  | false => ke 180
  | true => un R n fun t => forceB t fun t => match t with
    | false => ke 180
    | true => th R l (fun e => errIn [5, 180] e ke) fun m => th R n (fun e => errIn [5, 180] e ke) fun n => tu R n (fun e => errIn [5, 180] e ke) fun n =>
      thn R m n (fun e => errIn [5, 180] e ke) k))

def underB (mul add : KCCC) : KMZC := fun R m a b k => mul R m.c1 m.c2 a b fun x y => add R x y m.d1 m.d2 k
def moebB (un : KMZC) (no : KCB) (mul add div : KCCC) : KMZ := fun R m a b ke k => un R m a b fun s t => no R s t fun q => forceB q fun q => match q with
  | true => ke 6
  | false => mul R m.a1 m.a2 a b fun x y => add R x y m.b1 m.b2 fun u v => div R u v s t k
def atB (chk : KMI) (pl : KCB) (mo : KMZ) (fin : KCB) : KMZ := fun R m a b ke k => chk R m fun e => forceB (e != 0) fun t => match t with
  | true => ke e
  | false => pl R a b fun t => forceB t fun t => match t with
    | false => ke 5
    | true => mo R m a b (fun e => errIn [5, 6, 180] e ke) fun x y => fin R x y fun t => forceB t fun t => match t with
      | false => ke 6
      | true => k x y

/-! ### Three places of whole parts -/
structure I3 where
  a1 : Int
  a2 : Int
  b1 : Int
  b2 : Int
  c1 : Int
  c2 : Int
def iv (l : I3) : Value := .agg ⟨[.int .i16 l.a1, .int .i16 l.a2, .int .i16 l.b1, .int .i16 l.b2, .int .i16 l.c1, .int .i16 l.c2]⟩

def eq2 {R : Type} (a b c d : Int) (k : Bool → Option R) : Option R := forceB (a == c) fun t => match t with
  | false => k false
  | true => forceB (b == d) fun t => match t with
    | false => k false
    | true => k true
/-- are two of three alike? -/
def twoLike {R : Type} (l : I3) (k : Bool → Option R) : Option R := eq2 l.a1 l.a2 l.b1 l.b2 fun t => match t with
  | true => k true
  | false => eq2 l.b1 l.b2 l.c1 l.c2 fun t => match t with
    | true => k true
    | false => eq2 l.c1 l.c2 l.a1 l.a2 k

def threeTail {R : Type} (at_ : KMZ) (near : KCCFB) (m : Mp) (x y u v : Nat) (k : Bool → Option R) (next : Option R) : Option R :=
  at_ R m x y (fun e => errIn [5, 6, 180] e fun _ => k false) fun p q => near R p q u v 4472074429978902528 fun t => forceB t fun t => match t with
  | false => k false
  | true => next

def threeLaw (up : KGB) (of_ : KGC) (three : KTTM) (at_ : KMZ) (near : KCCFB) : ∀ R : Type, I3 → I3 → (Bool → Option R) → Option R := fun R f g k =>
  up R f.a1 f.a2 fun t => forceB t fun t => match t with
  | false => k true
  | true => up R g.a1 g.a2 fun t => forceB t fun t => match t with
    | false => k true
    | true => of_ R f.a1 f.a2 fun a1 a2 => of_ R g.a1 g.a2 fun x1 x2 =>
      up R f.b1 f.b2 fun t => forceB t fun t => match t with
      | false => k true
      | true => up R g.b1 g.b2 fun t => forceB t fun t => match t with
        | false => k true
        | true => of_ R f.b1 f.b2 fun b1 b2 => of_ R g.b1 g.b2 fun y1 y2 =>
          up R f.c1 f.c2 fun t => forceB t fun t => match t with
          | false => k true
          | true => up R g.c1 g.c2 fun t => forceB t fun t => match t with
            | false => k true
            | true => of_ R f.c1 f.c2 fun c1 c2 => of_ R g.c1 g.c2 fun z1 z2 =>
              three R ⟨a1, a2, b1, b2, c1, c2⟩ ⟨x1, x2, y1, y2, z1, z2⟩
                (fun e => errIn [5, 180] e fun e => twoLike f fun t => match t with
                  | true => k (e == 180)
                  | false => twoLike g fun t => match t with
                    | true => k (e == 180)
                    | false => k false)
                (fun m => twoLike f fun t => match t with
                  | true => k false
                  | false => twoLike g fun t => match t with
                    | true => k false
                    | false => threeTail at_ near m a1 a2 x1 x2 k (threeTail at_ near m b1 b2 y1 y2 k (threeTail at_ near m c1 c2 z1 z2 k (k true))))
end Go.Vm
namespace Go.Vm
open Ieee
set_option linter.unusedVariables false
set_option linter.unusedSimpArgs false

/-! ### Roots, Joukowski's map, the way back -/
def sInf3 (g0 gp gm : KFB) : Sum := fun R args k => match args with
  | [.float .f64 a, .int .i64 s] => bif s == 0 then g0 R a fun t => forceB t fun t => k (.bool t) else bif s == 1 then gp R a fun t => forceB t fun t => k (.bool t) else
      bif s == -1 then gm R a fun t => forceB t fun t => k (.bool t) else none
  | _ => none
def isInfPK : KFB := fun R a k => forceB (gtF a 9218868437227405311) fun t => k t
def isInfMK : KFB := fun R a k => forceN (Op.negFloat .f64 a) fun x => forceB (gtF x 9218868437227405311) fun t => k t
def sInfW : Sum := fun R args k => match args with
  | [.int .i64 s] => bif s == 1 then k (.float .f64 9218868437227405312) else none
  | _ => none
abbrev KFFCB := ∀ R : Type, Nat → Nat → (Nat → Nat → Bool → Option R) → Option R
def sFFCB (g : KFFCB) : Sum := fun R args k => match args with
  | [.float .f64 a, .float .f64 b] => g R a b fun x y t => forceB t fun t => k (.tuple ⟨[.complex .f64 x y, .bool t]⟩)
  | _ => none
abbrev KCFC := ∀ R : Type, Nat → Nat → Nat → (Nat → Nat → Option R) → Option R
def sCFC (g : KCFC) : Sum := fun R args k => match args with
  | [.complex .f64 a b, .float .f64 c] => g R a b c fun x y => k (.complex .f64 x y)
  | _ => none
def sclK : KCFC := fun R a b c k => bindF (fbF .mul a c) fun x => bindF (fbF .mul b c) fun y => k x y

def edgeB (g0 gp gm nan : KFB) (cp : KFFF) : KFFCB := fun R x y k =>
  g0 R y fun t => forceB t fun t => match t with
  | true => k 9218868437227405312 y true
  | false => gp R x fun t => forceB t fun t => match t with
    | true => none
    | false =>
      let rest : Unit → Option R := fun _ => gm R x fun t => forceB t fun t => match t with
        | true => cp R 9218868437227405312 y fun q => k 0 q true
        | false => nan R x fun t => forceB t fun t => match t with
          | true => none
          | false => nan R y fun t => forceB t fun t => match t with
            | true => none
            | false => forceB (eqF x 0) fun t => match t with
              | false => k 0 0 false
              | true => forceB (eqF y 0) fun t => match t with
                | true => k 0 y true
                | false => k 0 0 false
      gm R x fun t => forceB t fun t => match t with
      | true => nan R y fun t => forceB t fun t => match t with
        | true => k y 9218868437227405312 true
        | false => rest ()
      | false => rest ()

def rootB (fi : Fi) (edge : KFFCB) (gr : KCF) (pa : KFFI) (sc : KFIF) (ab : KFF) (sq : KCF) (rt : KFF) (cp : KFFF) : KCC := fun R a b k =>
  edge R a b fun r1 r2 t => forceB t fun t => match t with
  | true => k r1 r2
  | false => gr R a b fun g => pa R g fun _ order =>
    ab R a fun ax => fi R (IntKind.i64.wrap (-2 * shrU order 1)) fun m => sc R ax m fun b1 => fi R (IntKind.i64.wrap (-2 * shrU order 1)) fun m => sc R b m fun b2 =>
    sq R b1 b2 fun q => rt R q fun r => bindF (fbF .add b1 r) fun t => bindF (fbF .quo t 4611686018427387904) fun h => rt R h fun s => sc R s (shrU order 1) fun S =>
    forceB (geF a 0) fun t => match t with
    | true => bindF (fbF .mul 4611686018427387904 S) fun d => bindF (fbF .quo b d) fun q => k S q
    | false => ab R b fun ay => bindF (fbF .mul 4611686018427387904 S) fun d => bindF (fbF .quo ay d) fun p => cp R S b fun q => k p q

def sM2C (g : KMC) : Sum := fun R args k => match args with
  | [v] => oneM v fun i m => bif (i == 2) then g R m fun x y => k (.complex .f64 x y) else none
  | _ => none
def sqrB (mul : KCCC) : KMC := fun R m k => mul R m.a1 m.a2 m.a1 m.a2 k
def zErrL {R : Type} (L : List Int) (k : Value → Option R) (e : Int) : Option R := errIn L e fun e => k (.tuple ⟨[.complex .f64 0 0, .int .i64 e]⟩)
/-- of one kind, with errors out of a list -/
def sMZL (L : List Int) (kind : Int) (g : KMZ) : Sum := fun R args k => match args with
  | [v, .complex .f64 a b] => oneM v fun i m => bif i == kind then g R m a b (zErrL L k) (zOk k) else none
  | _ => none
def joukB (no : KCB) (sqr : KMC) (div add : KCCC) : KMZ := fun R m a b ke k => no R a b fun t => forceB t fun t => match t with
  | true => ke 6
  | false => sqr R m fun x y => div R x y a b fun u v => add R a b u v k
def moebBackB (no : KCB) (mul sub div : KCCC) : KMZ := fun R m a b ke k => mul R m.c1 m.c2 a b fun x y => sub R m.a1 m.a2 x y fun g1 g2 => no R g1 g2 fun t => forceB t fun t => match t with
  | true => ke 181
  | false => mul R m.d1 m.d2 a b fun x y => sub R x y m.b1 m.b2 fun n1 n2 => div R n1 n2 g1 g2 k
def joukBackB (scl : KCFC) (mul sub add : KCCC) (neg root : KCC) : KMZ := fun R m a b ke k =>
  scl R m.a1 m.a2 4611686018427387904 fun f1 f2 => sub R a b f1 f2 fun d1 d2 => root R d1 d2 fun p1 p2 => add R a b f1 f2 fun g1 g2 => root R g1 g2 fun q1 q2 => mul R p1 p2 q1 q2 fun s1 s2 =>
  bindF (fbF .mul a s1) fun x => bindF (fbF .mul b s2) fun y => bindF (fbF .add x y) fun t => forceB (ltF t 0) fun t => match t with
  | true => neg R s1 s2 fun s1 s2 => add R a b s1 s2 fun x y => scl R x y 4602678819172646912 k
  | false => add R a b s1 s2 fun x y => scl R x y 4602678819172646912 k
def joukOtherB (jb : KMZ) (sqr : KMC) (div : KCCC) : KMZ := fun R m a b ke k => jb R m a b ke fun x y => sqr R m fun u v => div R u v x y k

def atLB (L : List Int) (chk : KMI) (pl : KCB) (mo : KMZ) (fin : KCB) : KMZ := fun R m a b ke k => chk R m fun e => forceB (e != 0) fun t => match t with
  | true => ke e
  | false => pl R a b fun t => forceB t fun t => match t with
    | false => ke 5
    | true => mo R m a b (fun e => errIn L e ke) fun x y => fin R x y fun t => forceB t fun t => match t with
      | false => ke 6
      | true => k x y

def sAt (g1 g2 : KMZ) : Sum := fun R args k => match args with
  | [v, .complex .f64 a b] => oneM v fun i m => bif i == 1 then g1 R m a b (zErrL [5, 6, 180] k) (zOk k) else bif i == 2 then g2 R m a b (zErrL [5, 6, 180] k) (zOk k) else none
  | _ => none
def sBack (g1 g2 g3 : KMZ) : Sum := fun R args k => match args with
  | [v, .complex .f64 a b, .bool t] => oneM v fun i m => match t with
    | true => bif i == 2 then g3 R m a b (zErrL [5, 6, 180] k) (zOk k) else none
    | false => bif i == 1 then g1 R m a b (zErrL [5, 6, 180, 181] k) (zOk k) else bif i == 2 then g2 R m a b (zErrL [5, 6, 180] k) (zOk k) else none
  | _ => none

structure G2 where
  x : Int
  y : Int
def gv (g : G2) : Value := .agg ⟨[.int .i16 g.x, .int .i16 g.y]⟩

def thereRest (of_ : KGC) (at2 bk2 bk3 : KMZ) (near : KCCFB) {R : Type} (a p : G2) (z1 z2 : Nat) (k : Bool → Option R) : Option R :=
  of_ R a.x a.y fun a1 a2 => at2 R ⟨a1, a2, 0, 0, 0, 0, 0, 0, 0⟩ z1 z2
    (fun e => errIn [5, 6, 180] e fun _ => eq2 a.x a.y 0 0 fun t => match t with
      | true => k true
      | false => eq2 p.x p.y 0 0 k)
    fun v1 v2 => bk2 R ⟨a1, a2, 0, 0, 0, 0, 0, 0, 0⟩ v1 v2
      (fun e => errIn [5, 6, 180] e fun _ => bk3 R ⟨a1, a2, 0, 0, 0, 0, 0, 0, 0⟩ v1 v2 (fun e => errIn [5, 6, 180] e fun _ => k false) fun _ _ => k false)
      fun b1 b2 => bk3 R ⟨a1, a2, 0, 0, 0, 0, 0, 0, 0⟩ v1 v2 (fun e => errIn [5, 6, 180] e fun _ => k false)
        fun c1 c2 => near R b1 b2 z1 z2 4544132024016830464 fun s => forceB s fun s => near R c1 c2 z1 z2 4544132024016830464 fun t => forceB t fun t => match s with
          | true => k true
          | false => k t

def thereLaw (up : KGB) (of_ : KGC) (small : KFrB) (fr : KFrM) (at1 at2 bk1 bk2 bk3 : KMZ) (near : KCCFB) : ∀ R : Type, Fr → G2 → G2 → (Bool → Option R) → Option R := fun R f a p k =>
  small R f fun t => forceB t fun t => match t with
  | false => k true
  | true => up R a.x a.y fun t => forceB t fun t => match t with
    | false => k true
    | true => up R p.x p.y fun t => forceB t fun t => match t with
      | false => k true
      | true => of_ R p.x p.y fun z1 z2 => fr R f fun m => at1 R m z1 z2
          (fun e => errIn [5, 6, 180] e fun _ => thereRest of_ at2 bk2 bk3 near a p z1 z2 k)
          fun w1 w2 => bk1 R m w1 w2 (fun e => errIn [5, 6, 180, 181] e fun _ => k false)
            fun b1 b2 => near R b1 b2 z1 z2 4517110426252607488 fun t => forceB t fun t => match t with
            | false => k false
            | true => thereRest of_ at2 bk2 bk3 near a p z1 z2 k
end Go.Vm
namespace Go.Vm
set_option linter.unusedVariables false

/-! ### Elements -/
def el (kind : Int) (a1 a2 s1 s2 p : Nat) : Value := .agg ⟨[.int .u8 kind, .complex .f64 a1 a2, .complex .f64 s1 s2, .float .f64 p]⟩
abbrev KEI := ∀ R : Type, Int → Nat → Nat → Nat → Nat → Nat → (Int → Option R) → Option R
def sEI (g : KEI) : Sum := fun R args k => match args with
  | [.agg ⟨[.int .u8 kind, .complex .f64 a1 a2, .complex .f64 s1 s2, .float .f64 p]⟩] => g R kind a1 a2 s1 s2 p fun e => k (.int .i64 e)
  | _ => none

/-- Check -/
def checkB (re : KCB) (wi : KFFB) (no : KCB) (wh : KFB) : KEI := fun R kind a1 a2 s1 s2 p k =>
  forceB (decide (kind < 1)) fun t => match t with
  | true => k 150
  | false => forceB (decide (kind > 4)) fun t => match t with
    | true => k 150
    | false => re R a1 a2 fun t => forceB t fun t => match t with
      | false => k 5
      | true => re R s1 s2 fun t => forceB t fun t => match t with
        | false => k 5
        | true => wi R p 4787326403894837248 fun t => forceB t fun t => match t with
          | false => k 5
          | true => forceB (kind == 1) fun t => match t with
            | true => no R a1 a2 fun t => forceB t fun t => match t with
              | true => forceB (eqF p 0) fun t => match t with | true => k 0 | false => k 150
              | false => k 150
            | false => forceB (kind == 2) fun t => match t with
              | true => forceB (eqF p 0) fun t => match t with | true => k 0 | false => k 150
              | false => forceB (kind == 3) fun t => match t with
                | true => wh R p fun t => forceB t fun t => match t with
                  | true => forceB (geF p 4607182418800017408) fun t => match t with
                    | true => forceB (leF p 4620693217682128896) fun t => match t with | true => k 0 | false => k 150
                    | false => k 150
                  | false => k 150
                | false => forceB (kind == 4) fun t => match t with
                  | true => forceB (geF p 4598175219545276416) fun t => match t with
                    | true => forceB (leF p 4616189618054758400) fun t => match t with | true => k 0 | false => k 150
                    | false => k 150
                  | false => k 150

/-- a value, if it is finite -/
def toldE {R : Type} (fin : KCB) (er : Int → Option R) (k : Nat → Nat → Option R) (x y : Nat) : Option R :=
  fin R x y fun t => forceB t fun t => match t with | true => k x y | false => er 6

/-- Speed, of a stream -/
def spS (chk : KEI) (re no fin : KCB) (sub : KCCC) : ∀ R : Type, Nat → Nat → Nat → Nat → Nat → Nat → (Int → Option R) → (Nat → Nat → Option R) → Option R := fun R a1 a2 s1 s2 z1 z2 er k =>
  chk R 1 a1 a2 s1 s2 0 fun e => match decide (e = 0) with
    | false => er e
    | true => re R z1 z2 fun t => forceB t fun t => match t with
      | false => er 5
      | true => sub R z1 z2 a1 a2 fun d1 d2 => no R d1 d2 fun t => forceB t fun t => match t with
        | true => toldE fin er k s1 s2
        | false => toldE fin er k s1 s2
/-- of a source -/
def spO (chk : KEI) (re no fin : KCB) (sub div : KCCC) (scl : KCFC) : ∀ R : Type, Nat → Nat → Nat → Nat → Nat → Nat → (Int → Option R) → (Nat → Nat → Option R) → Option R := fun R a1 a2 s1 s2 z1 z2 er k =>
  chk R 2 a1 a2 s1 s2 0 fun e => match decide (e = 0) with
    | false => er e
    | true => re R z1 z2 fun t => forceB t fun t => match t with
      | false => er 5
      | true => scl R s1 s2 4594902181429758083 fun c1 c2 => sub R z1 z2 a1 a2 fun d1 d2 => no R d1 d2 fun t => forceB t fun t => match t with
        | true => er 6
        | false => div R c1 c2 d1 d2 (toldE fin er k)
/-- of a doublet -/
def spD (chk : KEI) (re no fin : KCB) (sub div mul : KCCC) (scl : KCFC) : ∀ R : Type, Nat → Nat → Nat → Nat → Nat → Nat → (Int → Option R) → (Nat → Nat → Option R) → Option R := fun R a1 a2 s1 s2 z1 z2 er k =>
  chk R 3 a1 a2 s1 s2 4607182418800017408 fun e => match decide (e = 0) with
    | false => er e
    | true => re R z1 z2 fun t => forceB t fun t => match t with
      | false => er 5
      | true => sub R z1 z2 a1 a2 fun d1 d2 => no R d1 d2 fun t => forceB t fun t => match t with
        | true => er 6
        | false => scl R s1 s2 13830554455654793216 fun t1 t2 => mul R d1 d2 d1 d2 fun q1 q2 => div R t1 t2 q1 q2 (toldE fin er k)

def vErr {R : Type} (k : Value → Option R) (e : Int) : Option R := k (.tuple ⟨[.complex .f64 0 0, .int .i64 e]⟩)
def sSp (f1 f2 f3 : ∀ R : Type, Nat → Nat → Nat → Nat → Nat → Nat → (Int → Option R) → (Nat → Nat → Option R) → Option R) : Sum := fun R args k => match args with
  | [.agg ⟨[.int .u8 kind, .complex .f64 a1 a2, .complex .f64 s1 s2, .float .f64 p]⟩, .complex .f64 z1 z2] =>
    bif kind == 1 && Nat.beq p 0 then f1 R a1 a2 s1 s2 z1 z2 (vErr k) (zOk k)
    else bif kind == 2 && Nat.beq p 0 then f2 R a1 a2 s1 s2 z1 z2 (vErr k) (zOk k)
    else bif kind == 3 && Nat.beq p 4607182418800017408 then f3 R a1 a2 s1 s2 z1 z2 (vErr k) (zOk k)
    else none
  | _ => none

/-- whole, of 1 and of nought -/
def sWh1 : Sum := fun R args k => match args with
  | [.float .f64 p] => bif Nat.beq p 4607182418800017408 then k (.bool true) else none
  | _ => none
def wh1 : KFB := fun R p k => bif Nat.beq p 4607182418800017408 then k true else none
/-- Whole, of the power 2 -/
def sW2 (mul : KCCC) : Sum := fun R args k => match args with
  | [.complex .f64 a b, .int .i64 n] => bif n == 2 then mul R a b a b fun x y => k (.complex .f64 x y) else none
  | _ => none

/-! ### Sines and cosines -/
abbrev KFF2 := ∀ R : Type, Nat → (Nat → Nat → Option R) → Option R
def sFF2 (g : KFF2) : Sum := fun R args k => match args with
  | [.float .f64 y] => g R y fun s c => k (.tuple ⟨[.float .f64 s, .float .f64 c]⟩)
  | _ => none
def stepsR {R : Type} (z : Nat) : List (Nat × Nat) → Nat → Nat → (Nat → Nat → Option R) → Option R
  | [], s, c, k => k s c
  | (a, b) :: r, s, c, k => bindF (fbF .quo z a) fun x => bindF (fbF .mul x s) fun x => bindF (fbF .sub 4607182418800017408 x) fun s =>
      bindF (fbF .quo z b) fun x => bindF (fbF .mul x c) fun x => bindF (fbF .sub 4607182418800017408 x) fun c => stepsR z r s c k
def stepsL : List (Nat × Nat) := [(4644724143818801152, 4644090825121202176), (4643492690795692032, 4642648265865560064), (4641592734702895104, 4640607572284407808), (4639692778610098176, 4638848353679966208), (4637440978796412928, 4636033603912859648), (4634766966517661696, 4633078116657397760), (4631107791820423168, 4629137466983448576), (4626322717216342016, 4622945017495814144), (4618441417868443648, 4611686018427387904)]
def stepsK : KFF2 := fun R y k => bindF (fbF .mul y y) fun z => stepsR z stepsL 4607182418800017408 4607182418800017408 fun s c => bindF (fbF .mul y s) fun s => k s c

/-! ### Functions without a body -/
def xFrom : Sum := fun R args k => match args with
  | [.int .u64 n] => forceN n.toNat fun x => k (.float .f64 x)
  | _ => none
def xBits : Sum := fun R args k => match args with
  | [.float .f64 b] => fiReal R (b : Int) fun n => k (.int .u64 n)
  | _ => none
def xWhole (way : Ieee.Toward) : Sum := fun R args k => match args with
  | [.float .f64 x] => match Ieee.double.read x with
    | .nan _ _ => none
    | d => forceN (Ieee.double.write (d.integral way)) fun y => k (.float .f64 y)
  | _ => none
end Go.Vm
