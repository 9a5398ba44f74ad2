/- What the small functions of floats compute, in Lean; no conditions. What the functions of package chart compute, in Lean; no conditions. What ChartGroup computes, in Lean; no conditions. -/
import Derived.Test.YtnbpfafngidimaaGreatVmN
namespace Go.Vm
open Ieee
set_option linter.unusedVariables false
set_option linter.unusedSimpArgs false

/-! ### What the small functions compute, in continuation style -/
def eqF (a b : Nat) : Bool := double.order a b == some .eq
def neF (a b : Nat) : Bool := double.order a b != some .eq
def leF (a b : Nat) : Bool := double.order a b == some .lt || double.order a b == some .eq
def geF (a b : Nat) : Bool := double.order a b == some .gt || double.order a b == some .eq
def ltF (a b : Nat) : Bool := double.order a b == some .lt
def gtF (a b : Nat) : Bool := double.order a b == some .gt

def addK : KCCC := fun R a b c d k => bindF (floatBits .add .f64 a c) fun x => bindF (floatBits .add .f64 b d) fun y => k x y
def subK : KCCC := fun R a b c d k => bindF (floatBits .sub .f64 a c) fun x => bindF (floatBits .sub .f64 b d) fun y => k x y
def mulK : KCCC := fun R a b c d k =>
   bindF (floatBits .mul .f64 a c) fun x1 => bindF (floatBits .mul .f64 b d) fun x2 => bindF (floatBits .sub .f64 x1 x2) fun re =>
   bindF (floatBits .mul .f64 a d) fun x3 => bindF (floatBits .mul .f64 b c) fun x4 => bindF (floatBits .add .f64 x3 x4) fun im => k re im
def negK : KCC := fun R a b k => forceN (Op.negFloat .f64 a) fun x => forceN (Op.negFloat .f64 b) fun y => k x y
def likeK : KFFB := fun R a b k => forceB (eqF a b) fun t => match t with
  | true => k true
  | false => forceB (neF a a) fun t => match t with
    | true => forceB (neF b b) fun t => k t
    | false => k false
def LikeB (lk : KFFB) : KCCB := fun R a b c d k => lk R a c fun t => forceB t fun t => match t with
  | true => lk R b d fun t => forceB t fun t => k t
  | false => k false
def noughtK : KCB := fun R a b k => forceB (eqF a 0) fun t => match t with
  | true => forceB (eqF b 0) fun t => k t
  | false => k false
def absW (a : Nat) : Nat := (IntKind.u64.wrap ((BitVec.ofInt 64 a &&& ~~~(BitVec.ofInt 64 9223372036854775808)).toNat : Nat)).toNat
def absK : KFF := fun R a k => k (absW a)
def withinB (ab : KFF) : KFFB := fun R a m k => ab R a fun x => forceB (leF x m) fun t => k t
def WithinB (wi : KFFB) : KCFB := fun R a b m k => wi R a m fun t => forceB t fun t => match t with
  | true => wi R b m fun t => forceB t fun t => k t
  | false => k false
def placeB (wi : KCFB) : KCB := fun R a b k => wi R a b 4787326403894837248 fun t => forceB t fun t => k t
def bothB (mul add : KCCC) : ∀ R : Type, Nat → Nat → Nat → Nat → Nat → Nat → Nat → Nat → (Nat → Nat → Option R) → Option R := fun R a1 a2 b1 b2 c1 c2 d1 d2 k =>
  mul R a1 a2 b1 b2 fun x1 x2 => mul R c1 c2 d1 d2 fun y1 y2 => add R x1 x2 y1 y2 k
end Go.Vm
namespace Go.Vm
open Ieee
set_option linter.unusedVariables false
set_option linter.unusedSimpArgs false

/-! ### Maps -/
structure Mp where
  a1 : Nat
  a2 : Nat
  b1 : Nat
  b2 : Nat
  c1 : Nat
  c2 : Nat
  d1 : Nat
  d2 : Nat
  p : Nat

def mv (i : Int) (m : Mp) : Value := .agg ⟨[.int .u8 i, .complex .f64 m.a1 m.a2, .complex .f64 m.b1 m.b2, .complex .f64 m.c1 m.c2, .complex .f64 m.d1 m.d2, .float .f64 m.p]⟩
def zm : Mp := ⟨0, 0, 0, 0, 0, 0, 0, 0, 0⟩

abbrev KMI := ∀ R : Type, Mp → (Int → Option R) → Option R
abbrev KMC := ∀ R : Type, Mp → (Nat → Nat → Option R) → Option R
abbrev KMM := ∀ R : Type, Mp → (Int → Option R) → (Mp → Option R) → Option R
abbrev KMMM := ∀ R : Type, Mp → Mp → (Int → Option R) → (Mp → Option R) → Option R
abbrev KMMB := ∀ R : Type, Mp → Mp → (Bool → Option R) → Option R
abbrev KC4 := ∀ R : Type, Nat → Nat → Nat → Nat → Nat → Nat → Nat → Nat → (Nat → Nat → Option R) → Option R

def oneM {R : Type} (v : Value) (k : Int → Mp → Option R) : Option R := match v with
  | .agg ⟨[.int .u8 i, .complex .f64 a1 a2, .complex .f64 b1 b2, .complex .f64 c1 c2, .complex .f64 d1 d2, .float .f64 p]⟩ => k i ⟨a1, a2, b1, b2, c1, c2, d1, d2, p⟩
  | _ => none
theorem oneM_some {R : Type} {v : Value} {k : Int → Mp → Option R} {r : R} (h : oneM v k = some r) : ∃ i m, v = mv i m ∧ k i m = some r := by
  unfold oneM at h
  split at h
  · exact ⟨_, _, rfl, h⟩
  · cases h

/-- Check, of the two first kinds. -/
def sChk (g1 g2 : KMI) : Sum := fun R args k => match args with
  | [v] => oneM v fun i m => bif (i == 1) then g1 R m fun e => k (.int .i64 e) else bif (i == 2) then g2 R m fun e => k (.int .i64 e) else none
  | _ => none
def sDet (g : KMC) : Sum := fun R args k => match args with
  | [v] => oneM v fun i m => bif (i == 1) then g R m fun x y => k (.complex .f64 x y) else none
  | _ => none
def sMM (g : KMM) : Sum := fun R args k => match args with
  | [v] => oneM v fun i m => bif (i == 1) then g R m (fun e => k (.tuple ⟨[mv 0 zm, .int .i64 e]⟩)) (fun m => k (.tuple ⟨[mv 1 m, .int .i64 0]⟩)) else none
  | _ => none
def sMMM (g : KMMM) : Sum := fun R args k => match args with
  | [v, u] => oneM v fun i m => oneM u fun j n => bif (i == 1) && (j == 1) then g R m n (fun e => k (.tuple ⟨[mv 0 zm, .int .i64 e]⟩)) (fun m => k (.tuple ⟨[mv 1 m, .int .i64 0]⟩)) else none
  | _ => none
def sMMB (g : KMMB) : Sum := fun R args k => match args with
  | [v, u] => oneM v fun i m => oneM u fun j n => bif (i == 1) && (j == 1) then g R m n fun t => forceB t fun t => k (.bool t) else none
  | _ => none
def sC4 (g : KC4) : Sum := fun R args k => match args with
  | [.complex .f64 a b, .complex .f64 c d, .complex .f64 a' b', .complex .f64 c' d'] => g R a b c d a' b' c' d' fun x y => k (.complex .f64 x y)
  | _ => none

/-- What Check asks of any kind. -/
def chkHead {R : Type} (pl no : KCB) (wi : KFFB) (m : Mp) (k : Int → Option R) (rest : Bool → Option R) : Option R :=
  pl R m.a1 m.a2 fun t => forceB t fun t => match t with
  | false => k 5
  | true => pl R m.b1 m.b2 fun t => forceB t fun t => match t with
    | false => k 5
    | true => pl R m.c1 m.c2 fun t => forceB t fun t => match t with
      | false => k 5
      | true => pl R m.d1 m.d2 fun t => forceB t fun t => match t with
        | false => k 5
        | true => wi R m.p 4787326403894837248 fun t => forceB t fun t => match t with
          | false => k 5
          | true => no R m.a1 m.a2 fun t => forceB t fun t => match t with
            | true => rest false
            | false => no R m.c1 m.c2 fun t => forceB t fun t => match t with
              | false => rest false
              | true => no R m.d1 m.d2 fun t => forceB t fun t => rest t

def chk1B (pl no : KCB) (wi : KFFB) (det : KMC) : KMI := fun R m k => chkHead pl no wi m k fun _ =>
  forceB (eqF m.p 0) fun t => match t with
  | false => k 180
  | true => det R m fun x y => no R x y fun t => forceB t fun t => match t with
    | true => k 180
    | false => k 0

def chk2B (pl no : KCB) (wi : KFFB) : KMI := fun R m k => chkHead pl no wi m k fun alone =>
  forceB (eqF m.p 0) fun t => match t with
  | false => k 180
  | true => match alone with
    | false => k 180
    | true => no R m.b1 m.b2 fun t => forceB t fun t => match t with
      | true => k 0
      | false => k 180

def detB (mul sub : KCCC) : KMC := fun R m k => mul R m.a1 m.a2 m.d1 m.d2 fun x y => mul R m.b1 m.b2 m.c1 m.c2 fun u v => sub R x y u v k

def toldB (chk : KMI) : KMM := fun R m ke k => chk R m fun e => forceB (e != 0) fun t => match t with
  | true => ke e
  | false => k m

def thenB (chk : KMI) (both : KC4) (told : KMM) : KMMM := fun R m n ke k =>
  chk R m fun e => forceB (e != 0) fun t => match t with
  | true => ke e
  | false => chk R n fun e => forceB (e != 0) fun t => match t with
    | true => ke e
    | false =>
      both R n.a1 n.a2 m.a1 m.a2 n.b1 n.b2 m.c1 m.c2 fun a1 a2 =>
      both R n.a1 n.a2 m.b1 m.b2 n.b1 n.b2 m.d1 m.d2 fun b1 b2 =>
      both R n.c1 n.c2 m.a1 m.a2 n.d1 n.d2 m.c1 m.c2 fun c1 c2 =>
      both R n.c1 n.c2 m.b1 m.b2 n.d1 n.d2 m.d1 m.d2 fun d1 d2 =>
      told R ⟨a1, a2, b1, b2, c1, c2, d1, d2, 0⟩ ke k

def turnedB (chk : KMI) (neg : KCC) (told : KMM) : KMM := fun R m ke k =>
  chk R m fun e => forceB (e != 0) fun t => match t with
  | true => ke e
  | false => neg R m.b1 m.b2 fun x y => neg R m.c1 m.c2 fun u v => told R ⟨m.d1, m.d2, x, y, u, v, m.a1, m.a2, 0⟩ ke k

def alikeB (lk : KCCB) : KMMB := fun R m n k =>
  lk R m.a1 m.a2 n.a1 n.a2 fun t => forceB t fun t => match t with
  | false => k false
  | true => lk R m.b1 m.b2 n.b1 n.b2 fun t => forceB t fun t => match t with
    | false => k false
    | true => lk R m.c1 m.c2 n.c1 n.c2 fun t => forceB t fun t => match t with
      | false => k false
      | true => lk R m.d1 m.d2 n.d1 n.d2 fun t => forceB t fun t => k t

/-! ### Whole numbers -/
def upK {R : Type} (x y : Int) (k : Bool → Option R) : Option R :=
  forceB (decide (x ≥ -8)) fun t => match t with
  | false => k false
  | true => forceB (decide (x ≤ 8)) fun t => match t with
    | false => k false
    | true => forceB (decide (y ≥ -8)) fun t => match t with
      | false => k false
      | true => forceB (decide (y ≤ 8)) fun t => k t
def ofK {R : Type} (x y : Int) (k : Nat → Nat → Option R) : Option R := forceN (floatOfInt .f64 x) fun a => forceN (floatOfInt .f64 y) fun b => k a b
abbrev KGB := ∀ R : Type, Int → Int → (Bool → Option R) → Option R
abbrev KGC := ∀ R : Type, Int → Int → (Nat → Nat → Option R) → Option R
def sUp (g : KGB) : Sum := fun R args k => match args with
  | [.agg ⟨[.int .i16 x, .int .i16 y]⟩, .int .i16 to] => bif (to == 8) then g R x y fun t => forceB t fun t => k (.bool t) else none
  | _ => none
def sOf (g : KGC) : Sum := fun R args k => match args with
  | [.agg ⟨[.int .i16 x, .int .i16 y]⟩] => g R x y fun a b => k (.complex .f64 a b)
  | _ => none

structure Fr where
  a1 : Int
  a2 : Int
  b1 : Int
  b2 : Int
  c1 : Int
  c2 : Int
  d1 : Int
  d2 : Int
def fv (f : Fr) : Value := .agg ⟨[.int .i16 f.a1, .int .i16 f.a2, .int .i16 f.b1, .int .i16 f.b2, .int .i16 f.c1, .int .i16 f.c2, .int .i16 f.d1, .int .i16 f.d2]⟩
def oneF {R : Type} (v : Value) (k : Fr → Option R) : Option R := match v with
  | .agg ⟨[.int .i16 a1, .int .i16 a2, .int .i16 b1, .int .i16 b2, .int .i16 c1, .int .i16 c2, .int .i16 d1, .int .i16 d2]⟩ => k ⟨a1, a2, b1, b2, c1, c2, d1, d2⟩
  | _ => none
theorem oneF_some {R : Type} {v : Value} {k : Fr → Option R} {r : R} (h : oneF v k = some r) : ∃ f, v = fv f ∧ k f = some r := by
  unfold oneF at h
  split at h
  · exact ⟨_, rfl, h⟩
  · cases h
abbrev KFrM := ∀ R : Type, Fr → (Mp → Option R) → Option R
abbrev KFrB := ∀ R : Type, Fr → (Bool → Option R) → Option R
def sFrM (g : KFrM) : Sum := fun R args k => match args with
  | [v] => oneF v fun f => g R f fun m => k (mv 1 m)
  | _ => none
def sFrB (g : KFrB) : Sum := fun R args k => match args with
  | [v] => oneF v fun f => g R f fun t => forceB t fun t => k (.bool t)
  | _ => none
def smallB (up : KGB) : KFrB := fun R f k => up R f.a1 f.a2 fun t => forceB t fun t => match t with
  | false => k false
  | true => up R f.b1 f.b2 fun t => forceB t fun t => match t with
    | false => k false
    | true => up R f.c1 f.c2 fun t => forceB t fun t => match t with
      | false => k false
      | true => up R f.d1 f.d2 fun t => forceB t fun t => k t
def frB (of_ : KGC) : KFrM := fun R f k => of_ R f.a1 f.a2 fun a1 a2 => of_ R f.b1 f.b2 fun b1 b2 => of_ R f.c1 f.c2 fun c1 c2 => of_ R f.d1 f.d2 fun d1 d2 => k ⟨a1, a2, b1, b2, c1, c2, d1, d2, 0⟩
end Go.Vm
namespace Go.Vm
open Ieee
set_option linter.unusedVariables false
set_option linter.unusedSimpArgs false

def gRest {R : Type} (lk : KCCB) (n : Mp) (x y : Nat) (k : Bool → Option R) : Option R :=
  lk R n.a1 n.a2 x y fun t => forceB t fun t => match t with
  | false => k false
  | true => lk R n.d1 n.d2 x y fun t => forceB t fun t => match t with
    | false => k false
    | true => forceB (eqF n.b1 0) fun s => forceB (eqF n.b2 0) fun t => match s && t with
      | false => k false
      | true => forceB (eqF n.c1 0) fun s => forceB (eqF n.c2 0) fun t => k (s && t)

def gTail {R : Type} (mul sub : KCCC) (lk : KCCB) (l n : Mp) (e : Int) (k : Bool → Option R) : Option R :=
  mul R l.a1 l.a2 l.d1 l.d2 fun x1 x2 => mul R l.b1 l.b2 l.c1 l.c2 fun y1 y2 => sub R x1 x2 y1 y2 fun d1 d2 =>
  forceB (e == 0) fun t => match t with
  | false => k false
  | true => gRest lk n d1 d2 k

def groupB (small : KFrB) (fr : KFrM) (chk : KMI) (thn : KMMM) (alike : KMMB) (turned : KMM) (mul sub : KCCC) (lk : KCCB) : ∀ R : Type, Fr → Fr → Fr → (Bool → Option R) → Option R := fun R f g h k =>
  fr R f fun l => fr R g fun m => fr R h fun n =>
  small R f fun t => forceB t fun t => match t with
  | false => k true
  | true => small R g fun t => forceB t fun t => match t with
    | false => k true
    | true => small R h fun t => forceB t fun t => match t with
      | false => k true
      | true => chk R l fun e => forceB (e != 0) fun t => match t with
        | true => k true
        | false => chk R m fun e => forceB (e != 0) fun t => match t with
          | true => k true
          | false => chk R n fun e => forceB (e != 0) fun t => match t with
            | true => k true
            | false =>
              thn R l m (fun _ => thn R m n (fun _ => none) (fun _ => none)) fun lm =>
              thn R m n (fun _ => thn R lm n (fun _ => none) (fun _ => none)) fun mn =>
              thn R lm n (fun e3 => thn R l mn
                  (fun e4 => forceB (e3 != 0) fun t => match t with | true => k false | false => forceB (e4 != 0) fun t => match t with | true => k false | false => none)
                  (fun _ => forceB (e3 != 0) fun t => match t with | true => k false | false => none)) fun left =>
              thn R l mn (fun e4 => forceB (e4 != 0) fun t => match t with | true => k false | false => none) fun right =>
              alike R left right fun t => forceB t fun t => match t with
              | false => k false
              | true => turned R l (fun _ => none) fun back =>
                thn R l back (fun e => gTail mul sub lk l zm e k) fun nn => gTail mul sub lk l nn 0 k
end Go.Vm
