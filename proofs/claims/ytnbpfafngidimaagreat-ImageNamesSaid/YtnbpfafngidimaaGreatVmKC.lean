/- What the functions of package chart compute, in Lean; no conditions. What ChartThree's functions compute, in Lean; no conditions. What ChartThere's functions compute, in Lean; no conditions. What the speeds of elements, and sines and cosines, compute as functions of words; no conditions. Quotients and roots of words are those of their numbers, rounded; no conditions. What ChartGroup computes, in Lean; no conditions. -/
import Derived.Test.YtnbpfafngidimaaGreatVmLP
import Derived.Test.YtnbpfafngidimaaGreatVmF0
namespace Go.Vm
open Ieee
set_option linter.unusedVariables false
set_option linter.unusedSimpArgs false

/-! ### Maps -/
structure Mp where
  a1 : Nat
  a2 : Nat
  b1 : Nat
  b2 : Nat
  c1 : Nat
  c2 : Nat
  d1 : Nat
  d2 : Nat
  p : Nat

def mv (i : Int) (m : Mp) : Value := .agg ⟨[.int .u8 i, .complex .f64 m.a1 m.a2, .complex .f64 m.b1 m.b2, .complex .f64 m.c1 m.c2, .complex .f64 m.d1 m.d2, .float .f64 m.p]⟩
def zm : Mp := ⟨0, 0, 0, 0, 0, 0, 0, 0, 0⟩

abbrev KMI := ∀ R : Type, Mp → (Int → Option R) → Option R
abbrev KMC := ∀ R : Type, Mp → (Nat → Nat → Option R) → Option R
abbrev KMM := ∀ R : Type, Mp → (Int → Option R) → (Mp → Option R) → Option R
abbrev KMMM := ∀ R : Type, Mp → Mp → (Int → Option R) → (Mp → Option R) → Option R
abbrev KMMB := ∀ R : Type, Mp → Mp → (Bool → Option R) → Option R
abbrev KC4 := ∀ R : Type, Nat → Nat → Nat → Nat → Nat → Nat → Nat → Nat → (Nat → Nat → Option R) → Option R

def oneM {R : Type} (v : Value) (k : Int → Mp → Option R) : Option R := match v with
  | .agg ⟨[.int .u8 i, .complex .f64 a1 a2, .complex .f64 b1 b2, .complex .f64 c1 c2, .complex .f64 d1 d2, .float .f64 p]⟩ => k i ⟨a1, a2, b1, b2, c1, c2, d1, d2, p⟩
  | _ => none
theorem oneM_some {R : Type} {v : Value} {k : Int → Mp → Option R} {r : R} (h : oneM v k = some r) : ∃ i m, v = mv i m ∧ k i m = some r := by
  unfold oneM at h
  split at h
  · exact ⟨_, _, rfl, h⟩
  · cases h

/-- Check, of the two first kinds. -/
def sChk (g1 g2 : KMI) : Sum := fun R args k => match args with
  | [v] => oneM v fun i m => bif (i == 1) then g1 R m fun e => k (.int .i64 e) else bif (i == 2) then g2 R m fun e => k (.int .i64 e) else none
  | _ => none
def sDet (g : KMC) : Sum := fun R args k => match args with
  | [v] => oneM v fun i m => bif (i == 1) then g R m fun x y => k (.complex .f64 x y) else none
  | _ => none
def sMM (g : KMM) : Sum := fun R args k => match args with
  | [v] => oneM v fun i m => bif (i == 1) then g R m (fun e => k (.tuple ⟨[mv 0 zm, .int .i64 e]⟩)) (fun m => k (.tuple ⟨[mv 1 m, .int .i64 0]⟩)) else none
  | _ => none
def sMMM (g : KMMM) : Sum := fun R args k => match args with
  | [v, u] => oneM v fun i m => oneM u fun j n => bif (i == 1) && (j == 1) then g R m n (fun e => k (.tuple ⟨[mv 0 zm, .int .i64 e]⟩)) (fun m => k (.tuple ⟨[mv 1 m, .int .i64 0]⟩)) else none
  | _ => none
def sMMB (g : KMMB) : Sum := fun R args k => match args with
  | [v, u] => oneM v fun i m => oneM u fun j n => bif (i == 1) && (j == 1) then g R m n fun t => forceB t fun t => k (.bool t) else none
  | _ => none
def sC4 (g : KC4) : Sum := fun R args k => match args with
  | [.complex .f64 a b, .complex .f64 c d, .complex .f64 a' b', .complex .f64 c' d'] => g R a b c d a' b' c' d' fun x y => k (.complex .f64 x y)
  | _ => none

/-- What Check asks of any kind. -/
def chkHead {R : Type} (pl no : KCB) (wi : KFFB) (m : Mp) (k : Int → Option R) (rest : Bool → Option R) : Option R :=
  pl R m.a1 m.a2 fun t => forceB t fun t => match t with
  | false => k 5
  | true => pl R m.b1 m.b2 fun t => forceB t fun t => match t with
    | false => k 5
    | true => pl R m.c1 m.c2 fun t => forceB t fun t => match t with
      | false => k 5
      | true => pl R m.d1 m.d2 fun t => forceB t fun t => match t with
        | false => k 5
        | true => wi R m.p 4787326403894837248 fun t => forceB t fun t => match t with
          | false => k 5
          | true => no R m.a1 m.a2 fun t => forceB t fun t => match t with
            | true => rest false
            | false => no R m.c1 m.c2 fun t => forceB t fun t => match t with
              | false => rest false
              | true => no R m.d1 m.d2 fun t => forceB t fun t => rest t

def chk1B (pl no : KCB) (wi : KFFB) (det : KMC) : KMI := fun R m k => chkHead pl no wi m k fun _ =>
  forceB (eqF m.p 0) fun t => match t with
  | false => k 180
  | true => det R m fun x y => no R x y fun t => forceB t fun t => match t with
    | true => k 180
    | false => k 0

def chk2B (pl no : KCB) (wi : KFFB) : KMI := fun R m k => chkHead pl no wi m k fun alone =>
  forceB (eqF m.p 0) fun t => match t with
  | false => k 180
  | true => match alone with
    | false => k 180
    | true => no R m.b1 m.b2 fun t => forceB t fun t => match t with
      | true => k 0
      | false => k 180

def detB (mul sub : KCCC) : KMC := fun R m k => mul R m.a1 m.a2 m.d1 m.d2 fun x y => mul R m.b1 m.b2 m.c1 m.c2 fun u v => sub R x y u v k

def toldB (chk : KMI) : KMM := fun R m ke k => chk R m fun e => forceB (e != 0) fun t => match t with
  | true => ke e
  | false => k m

def thenB (chk : KMI) (both : KC4) (told : KMM) : KMMM := fun R m n ke k =>
  chk R m fun e => forceB (e != 0) fun t => match t with
  | true => ke e
  | false => chk R n fun e => forceB (e != 0) fun t => match t with
    | true => ke e
    | false =>
      both R n.a1 n.a2 m.a1 m.a2 n.b1 n.b2 m.c1 m.c2 fun a1 a2 =>
      both R n.a1 n.a2 m.b1 m.b2 n.b1 n.b2 m.d1 m.d2 fun b1 b2 =>
      both R n.c1 n.c2 m.a1 m.a2 n.d1 n.d2 m.c1 m.c2 fun c1 c2 =>
      both R n.c1 n.c2 m.b1 m.b2 n.d1 n.d2 m.d1 m.d2 fun d1 d2 =>
      told R ⟨a1, a2, b1, b2, c1, c2, d1, d2, 0⟩ ke k

def turnedB (chk : KMI) (neg : KCC) (told : KMM) : KMM := fun R m ke k =>
  chk R m fun e => forceB (e != 0) fun t => match t with
  | true => ke e
  | false => neg R m.b1 m.b2 fun x y => neg R m.c1 m.c2 fun u v => told R ⟨m.d1, m.d2, x, y, u, v, m.a1, m.a2, 0⟩ ke k

def alikeB (lk : KCCB) : KMMB := fun R m n k =>
  lk R m.a1 m.a2 n.a1 n.a2 fun t => forceB t fun t => match t with
  | false => k false
  | true => lk R m.b1 m.b2 n.b1 n.b2 fun t => forceB t fun t => match t with
    | false => k false
    | true => lk R m.c1 m.c2 n.c1 n.c2 fun t => forceB t fun t => match t with
      | false => k false
      | true => lk R m.d1 m.d2 n.d1 n.d2 fun t => forceB t fun t => k t

/-! ### Whole numbers -/
def upK {R : Type} (x y : Int) (k : Bool → Option R) : Option R :=
  forceB (decide (x ≥ -8)) fun t => match t with
  | false => k false
  | true => forceB (decide (x ≤ 8)) fun t => match t with
    | false => k false
    | true => forceB (decide (y ≥ -8)) fun t => match t with
      | false => k false
      | true => forceB (decide (y ≤ 8)) fun t => k t
def ofK {R : Type} (x y : Int) (k : Nat → Nat → Option R) : Option R := forceN (floatOfInt .f64 x) fun a => forceN (floatOfInt .f64 y) fun b => k a b
abbrev KGB := ∀ R : Type, Int → Int → (Bool → Option R) → Option R
abbrev KGC := ∀ R : Type, Int → Int → (Nat → Nat → Option R) → Option R
def sUp (g : KGB) : Sum := fun R args k => match args with
  | [.agg ⟨[.int .i16 x, .int .i16 y]⟩, .int .i16 to] => bif (to == 8) then g R x y fun t => forceB t fun t => k (.bool t) else none
  | _ => none
def sOf (g : KGC) : Sum := fun R args k => match args with
  | [.agg ⟨[.int .i16 x, .int .i16 y]⟩] => g R x y fun a b => k (.complex .f64 a b)
  | _ => none

structure Fr where
  a1 : Int
  a2 : Int
  b1 : Int
  b2 : Int
  c1 : Int
  c2 : Int
  d1 : Int
  d2 : Int
def fv (f : Fr) : Value := .agg ⟨[.int .i16 f.a1, .int .i16 f.a2, .int .i16 f.b1, .int .i16 f.b2, .int .i16 f.c1, .int .i16 f.c2, .int .i16 f.d1, .int .i16 f.d2]⟩
def oneF {R : Type} (v : Value) (k : Fr → Option R) : Option R := match v with
  | .agg ⟨[.int .i16 a1, .int .i16 a2, .int .i16 b1, .int .i16 b2, .int .i16 c1, .int .i16 c2, .int .i16 d1, .int .i16 d2]⟩ => k ⟨a1, a2, b1, b2, c1, c2, d1, d2⟩
  | _ => none
theorem oneF_some {R : Type} {v : Value} {k : Fr → Option R} {r : R} (h : oneF v k = some r) : ∃ f, v = fv f ∧ k f = some r := by
  unfold oneF at h
  split at h
  · exact ⟨_, rfl, h⟩
  · cases h
abbrev KFrM := ∀ R : Type, Fr → (Mp → Option R) → Option R
abbrev KFrB := ∀ R : Type, Fr → (Bool → Option R) → Option R
def sFrM (g : KFrM) : Sum := fun R args k => match args with
  | [v] => oneF v fun f => g R f fun m => k (mv 1 m)
  | _ => none
def sFrB (g : KFrB) : Sum := fun R args k => match args with
  | [v] => oneF v fun f => g R f fun t => forceB t fun t => k (.bool t)
  | _ => none
def smallB (up : KGB) : KFrB := fun R f k => up R f.a1 f.a2 fun t => forceB t fun t => match t with
  | false => k false
  | true => up R f.b1 f.b2 fun t => forceB t fun t => match t with
    | false => k false
    | true => up R f.c1 f.c2 fun t => forceB t fun t => match t with
      | false => k false
      | true => up R f.d1 f.d2 fun t => forceB t fun t => k t
def frB (of_ : KGC) : KFrM := fun R f k => of_ R f.a1 f.a2 fun a1 a2 => of_ R f.b1 f.b2 fun b1 b2 => of_ R f.c1 f.c2 fun c1 c2 => of_ R f.d1 f.d2 fun d1 d2 => k ⟨a1, a2, b1, b2, c1, c2, d1, d2, 0⟩
end Go.Vm
namespace Go.Vm
open Ieee
set_option linter.unusedVariables false
set_option linter.unusedSimpArgs false

/-! ### Three places -/
structure T3 where
  a1 : Nat
  a2 : Nat
  b1 : Nat
  b2 : Nat
  c1 : Nat
  c2 : Nat
def tv (t : T3) : Value := .agg ⟨[.complex .f64 t.a1 t.a2, .complex .f64 t.b1 t.b2, .complex .f64 t.c1 t.c2]⟩
def oneT {R : Type} (v : Value) (k : T3 → Option R) : Option R := match v with
  | .agg ⟨[.complex .f64 a1 a2, .complex .f64 b1 b2, .complex .f64 c1 c2]⟩ => k ⟨a1, a2, b1, b2, c1, c2⟩
  | _ => none
theorem oneT_some {R : Type} {v : Value} {k : T3 → Option R} {r : R} (h : oneT v k = some r) : ∃ f, v = tv f ∧ k f = some r := by
  unfold oneT at h
  split at h
  · exact ⟨_, rfl, h⟩
  · cases h

/-- an error's number, told from a list -/
def errIn {R : Type} : List Int → Int → (Int → Option R) → Option R
  | [], _, _ => none
  | c :: cs, e, ke => forceB (e == c) fun t => match t with
    | true => ke c
    | false => errIn cs e ke
theorem errIn_some {R : Type} : ∀ {l : List Int} {e : Int} {ke : Int → Option R} {r : R}, errIn l e ke = some r → ke e = some r
  | [], _, _, _, h => by cases h
  | c :: cs, e, ke, r, h => by
    unfold errIn at h
    rw [forceB_eq] at h
    cases hb : (e == c) with
    | true =>
      rw [hb] at h
      have : e = c := by simpa using hb
      rw [this]; exact h
    | false => rw [hb] at h; exact errIn_some h
theorem errIn_eq {R : Type} {l : List Int} {e : Int} (ke : Int → Option R) (h : l.contains e = true) : errIn l e ke = ke e := by
  induction l with
  | nil => simp at h
  | cons c cs ih =>
    unfold errIn
    rw [forceB_eq]
    cases hb : (e == c) with
    | true =>
      have : e = c := by simpa using hb
      subst this; rfl
    | false =>
      simp only
      refine ih ?_
      simp only [List.contains_cons, hb, Bool.false_or] at h
      exact h

def mErr {R : Type} (k : Value → Option R) (e : Int) : Option R := errIn [5, 180] e fun e => k (.tuple ⟨[mv 0 zm, .int .i64 e]⟩)
def mOk {R : Type} (k : Value → Option R) (m : Mp) : Option R := k (.tuple ⟨[mv 1 m, .int .i64 0]⟩)
def zErr {R : Type} (k : Value → Option R) (e : Int) : Option R := errIn [5, 6, 180] e fun e => k (.tuple ⟨[.complex .f64 0 0, .int .i64 e]⟩)
def zOk {R : Type} (k : Value → Option R) (x y : Nat) : Option R := k (.tuple ⟨[.complex .f64 x y, .int .i64 0]⟩)

abbrev KTB := ∀ R : Type, T3 → (Bool → Option R) → Option R
abbrev KTM := ∀ R : Type, T3 → (Int → Option R) → (Mp → Option R) → Option R
abbrev KTTM := ∀ R : Type, T3 → T3 → (Int → Option R) → (Mp → Option R) → Option R
abbrev KMZ := ∀ R : Type, Mp → Nat → Nat → (Int → Option R) → (Nat → Nat → Option R) → Option R
abbrev KMZC := ∀ R : Type, Mp → Nat → Nat → (Nat → Nat → Option R) → Option R

def sTB (g : KTB) : Sum := fun R args k => match args with
  | [v] => oneT v fun l => g R l fun t => forceB t fun t => k (.bool t)
  | _ => none
def sTM (g : KTM) : Sum := fun R args k => match args with
  | [v] => oneT v fun l => g R l (mErr k) (mOk k)
  | _ => none
def sTTM (g : KTTM) : Sum := fun R args k => match args with
  | [v, u] => oneT v fun l => oneT u fun n => g R l n (mErr k) (mOk k)
  | _ => none
def sMM2 (g : KMM) : Sum := fun R args k => match args with
  | [v] => oneM v fun i m => bif i == 1 then g R m (mErr k) (mOk k) else none
  | _ => none
def sMMM2 (g : KMMM) : Sum := fun R args k => match args with
  | [v, u] => oneM v fun i m => oneM u fun j n => bif i == 1 && j == 1 then g R m n (mErr k) (mOk k) else none
  | _ => none
def sMZ (g : KMZ) : Sum := fun R args k => match args with
  | [v, .complex .f64 a b] => oneM v fun i m => bif i == 1 then g R m a b (zErr k) (zOk k) else none
  | _ => none
def sMZC (g : KMZC) : Sum := fun R args k => match args with
  | [v, .complex .f64 a b] => oneM v fun i m => bif i == 1 then g R m a b fun x y => k (.complex .f64 x y) else none
  | _ => none

def unlikeB (lk : KCCB) : KTB := fun R l k => lk R l.a1 l.a2 l.b1 l.b2 fun t => forceB t fun t => match t with
  | true => k false
  | false => lk R l.b1 l.b2 l.c1 l.c2 fun t => forceB t fun t => match t with
    | true => k false
    | false => lk R l.c1 l.c2 l.a1 l.a2 fun t => forceB t fun t => k (!t)

def threeB (sub mul : KCCC) (neg : KCC) (told : KMM) : KTM := fun R l ke k =>
  sub R l.b1 l.b2 l.c1 l.c2 fun a1 a2 => sub R l.b1 l.b2 l.a1 l.a2 fun c1 c2 =>
  mul R l.a1 l.a2 a1 a2 fun x1 x2 => neg R x1 x2 fun b1 b2 => mul R l.c1 l.c2 c1 c2 fun y1 y2 => neg R y1 y2 fun d1 d2 =>
  told R ⟨a1, a2, b1, b2, c1, c2, d1, d2, 0⟩ ke k

def placesB {R : Type} (pl : KCB) (l : T3) (ke : Int → Option R) (k : Option R) : Option R :=
  pl R l.a1 l.a2 fun t => forceB t fun t => match t with
  | false => ke 5
  | true => pl R l.b1 l.b2 fun t => forceB t fun t => match t with
    | false => ke 5
    | true => pl R l.c1 l.c2 fun t => forceB t fun t => match t with
      | false => ke 5
      | true => k

def ThreeB (pl : KCB) (un : KTB) (th : KTM) (tu : KMM) (thn : KMMM) : KTTM := fun R l n ke k =>
  placesB pl l ke (placesB pl n ke (un R l fun t => forceB t fun t => match t with
  | false => ke 180
  | true => un R n fun t => forceB t fun t => match t with
    | false => ke 180
    | true => th R l (fun e => errIn [5, 180] e ke) fun m => th R n (fun e => errIn [5, 180] e ke) fun n => tu R n (fun e => errIn [5, 180] e ke) fun n =>
      thn R m n (fun e => errIn [5, 180] e ke) k))

def underB (mul add : KCCC) : KMZC := fun R m a b k => mul R m.c1 m.c2 a b fun x y => add R x y m.d1 m.d2 k
def moebB (un : KMZC) (no : KCB) (mul add div : KCCC) : KMZ := fun R m a b ke k => un R m a b fun s t => no R s t fun q => forceB q fun q => match q with
  | true => ke 6
  | false => mul R m.a1 m.a2 a b fun x y => add R x y m.b1 m.b2 fun u v => div R u v s t k
def atB (chk : KMI) (pl : KCB) (mo : KMZ) (fin : KCB) : KMZ := fun R m a b ke k => chk R m fun e => forceB (e != 0) fun t => match t with
  | true => ke e
  | false => pl R a b fun t => forceB t fun t => match t with
    | false => ke 5
    | true => mo R m a b (fun e => errIn [5, 6, 180] e ke) fun x y => fin R x y fun t => forceB t fun t => match t with
      | false => ke 6
      | true => k x y

/-! ### Three places of whole parts -/
structure I3 where
  a1 : Int
  a2 : Int
  b1 : Int
  b2 : Int
  c1 : Int
  c2 : Int
def iv (l : I3) : Value := .agg ⟨[.int .i16 l.a1, .int .i16 l.a2, .int .i16 l.b1, .int .i16 l.b2, .int .i16 l.c1, .int .i16 l.c2]⟩

def eq2 {R : Type} (a b c d : Int) (k : Bool → Option R) : Option R := forceB (a == c) fun t => match t with
  | false => k false
  | true => forceB (b == d) fun t => match t with
    | false => k false
    | true => k true
/-- are two of three alike? -/
def twoLike {R : Type} (l : I3) (k : Bool → Option R) : Option R := eq2 l.a1 l.a2 l.b1 l.b2 fun t => match t with
  | true => k true
  | false => eq2 l.b1 l.b2 l.c1 l.c2 fun t => match t with
    | true => k true
    | false => eq2 l.c1 l.c2 l.a1 l.a2 k

def threeTail {R : Type} (at_ : KMZ) (near : KCCFB) (m : Mp) (x y u v : Nat) (k : Bool → Option R) (next : Option R) : Option R :=
  at_ R m x y (fun e => errIn [5, 6, 180] e fun _ => k false) fun p q => near R p q u v 4472074429978902528 fun t => forceB t fun t => match t with
  | false => k false
  | true => next

def threeLaw (up : KGB) (of_ : KGC) (three : KTTM) (at_ : KMZ) (near : KCCFB) : ∀ R : Type, I3 → I3 → (Bool → Option R) → Option R := fun R f g k =>
  up R f.a1 f.a2 fun t => forceB t fun t => match t with
  | false => k true
  | true => up R g.a1 g.a2 fun t => forceB t fun t => match t with
    | false => k true
    | true => of_ R f.a1 f.a2 fun a1 a2 => of_ R g.a1 g.a2 fun x1 x2 =>
      up R f.b1 f.b2 fun t => forceB t fun t => match t with
      | false => k true
      | true => up R g.b1 g.b2 fun t => forceB t fun t => match t with
        | false => k true
        | true => of_ R f.b1 f.b2 fun b1 b2 => of_ R g.b1 g.b2 fun y1 y2 =>
          up R f.c1 f.c2 fun t => forceB t fun t => match t with
          | false => k true
          | true => up R g.c1 g.c2 fun t => forceB t fun t => match t with
            | false => k true
            | true => of_ R f.c1 f.c2 fun c1 c2 => of_ R g.c1 g.c2 fun z1 z2 =>
              three R ⟨a1, a2, b1, b2, c1, c2⟩ ⟨x1, x2, y1, y2, z1, z2⟩
                (fun e => errIn [5, 180] e fun e => twoLike f fun t => match t with
                  | true => k (e == 180)
                  | false => twoLike g fun t => match t with
                    | true => k (e == 180)
                    | false => k false)
                (fun m => twoLike f fun t => match t with
                  | true => k false
                  | false => twoLike g fun t => match t with
                    | true => k false
                    | false => threeTail at_ near m a1 a2 x1 x2 k (threeTail at_ near m b1 b2 y1 y2 k (threeTail at_ near m c1 c2 z1 z2 k (k true))))
end Go.Vm
namespace Go.Vm
open Ieee
set_option linter.unusedVariables false
set_option linter.unusedSimpArgs false

/-! ### Roots, Joukowski's map, the way back -/
def sInf3 (g0 gp gm : KFB) : Sum := fun R args k => match args with
  | [.float .f64 a, .int .i64 s] => bif s == 0 then g0 R a fun t => forceB t fun t => k (.bool t) else bif s == 1 then gp R a fun t => forceB t fun t => k (.bool t) else
      bif s == -1 then gm R a fun t => forceB t fun t => k (.bool t) else none
  | _ => none
def isInfPK : KFB := fun R a k => forceB (gtF a 9218868437227405311) fun t => k t
def isInfMK : KFB := fun R a k => forceN (Op.negFloat .f64 a) fun x => forceB (gtF x 9218868437227405311) fun t => k t
def sInfW : Sum := fun R args k => match args with
  | [.int .i64 s] => bif s == 1 then k (.float .f64 9218868437227405312) else none
  | _ => none
abbrev KFFCB := ∀ R : Type, Nat → Nat → (Nat → Nat → Bool → Option R) → Option R
def sFFCB (g : KFFCB) : Sum := fun R args k => match args with
  | [.float .f64 a, .float .f64 b] => g R a b fun x y t => forceB t fun t => k (.tuple ⟨[.complex .f64 x y, .bool t]⟩)
  | _ => none
abbrev KCFC := ∀ R : Type, Nat → Nat → Nat → (Nat → Nat → Option R) → Option R
def sCFC (g : KCFC) : Sum := fun R args k => match args with
  | [.complex .f64 a b, .float .f64 c] => g R a b c fun x y => k (.complex .f64 x y)
  | _ => none
def sclK : KCFC := fun R a b c k => bindF (fbF .mul a c) fun x => bindF (fbF .mul b c) fun y => k x y

def edgeB (g0 gp gm nan : KFB) (cp : KFFF) : KFFCB := fun R x y k =>
  g0 R y fun t => forceB t fun t => match t with
  | true => k 9218868437227405312 y true
  | false => gp R x fun t => forceB t fun t => match t with
    | true => none
    | false =>
      let rest : Unit → Option R := fun _ => gm R x fun t => forceB t fun t => match t with
        | true => cp R 9218868437227405312 y fun q => k 0 q true
        | false => nan R x fun t => forceB t fun t => match t with
          | true => none
          | false => nan R y fun t => forceB t fun t => match t with
            | true => none
            | false => forceB (eqF x 0) fun t => match t with
              | false => k 0 0 false
              | true => forceB (eqF y 0) fun t => match t with
                | true => k 0 y true
                | false => k 0 0 false
      gm R x fun t => forceB t fun t => match t with
      | true => nan R y fun t => forceB t fun t => match t with
        | true => k y 9218868437227405312 true
        | false => rest ()
      | false => rest ()

def rootB (fi : Fi) (edge : KFFCB) (gr : KCF) (pa : KFFI) (sc : KFIF) (ab : KFF) (sq : KCF) (rt : KFF) (cp : KFFF) : KCC := fun R a b k =>
  edge R a b fun r1 r2 t => forceB t fun t => match t with
  | true => k r1 r2
  | false => gr R a b fun g => pa R g fun _ order =>
    ab R a fun ax => fi R (IntKind.i64.wrap (-2 * shrU order 1)) fun m => sc R ax m fun b1 => fi R (IntKind.i64.wrap (-2 * shrU order 1)) fun m => sc R b m fun b2 =>
    sq R b1 b2 fun q => rt R q fun r => bindF (fbF .add b1 r) fun t => bindF (fbF .quo t 4611686018427387904) fun h => rt R h fun s => sc R s (shrU order 1) fun S =>
    forceB (geF a 0) fun t => match t with
    | true => bindF (fbF .mul 4611686018427387904 S) fun d => bindF (fbF .quo b d) fun q => k S q
    | false => ab R b fun ay => bindF (fbF .mul 4611686018427387904 S) fun d => bindF (fbF .quo ay d) fun p => cp R S b fun q => k p q

def sM2C (g : KMC) : Sum := fun R args k => match args with
  | [v] => oneM v fun i m => bif (i == 2) then g R m fun x y => k (.complex .f64 x y) else none
  | _ => none
def sqrB (mul : KCCC) : KMC := fun R m k => mul R m.a1 m.a2 m.a1 m.a2 k
def zErrL {R : Type} (L : List Int) (k : Value → Option R) (e : Int) : Option R := errIn L e fun e => k (.tuple ⟨[.complex .f64 0 0, .int .i64 e]⟩)
/-- of one kind, with errors out of a list -/
def sMZL (L : List Int) (kind : Int) (g : KMZ) : Sum := fun R args k => match args with
  | [v, .complex .f64 a b] => oneM v fun i m => bif i == kind then g R m a b (zErrL L k) (zOk k) else none
  | _ => none
def joukB (no : KCB) (sqr : KMC) (div add : KCCC) : KMZ := fun R m a b ke k => no R a b fun t => forceB t fun t => match t with
  | true => ke 6
  | false => sqr R m fun x y => div R x y a b fun u v => add R a b u v k
def moebBackB (no : KCB) (mul sub div : KCCC) : KMZ := fun R m a b ke k => mul R m.c1 m.c2 a b fun x y => sub R m.a1 m.a2 x y fun g1 g2 => no R g1 g2 fun t => forceB t fun t => match t with
  | true => ke 181
  | false => mul R m.d1 m.d2 a b fun x y => sub R x y m.b1 m.b2 fun n1 n2 => div R n1 n2 g1 g2 k
def joukBackB (scl : KCFC) (mul sub add : KCCC) (neg root : KCC) : KMZ := fun R m a b ke k =>
  scl R m.a1 m.a2 4611686018427387904 fun f1 f2 => sub R a b f1 f2 fun d1 d2 => root R d1 d2 fun p1 p2 => add R a b f1 f2 fun g1 g2 => root R g1 g2 fun q1 q2 => mul R p1 p2 q1 q2 fun s1 s2 =>
  bindF (fbF .mul a s1) fun x => bindF (fbF .mul b s2) fun y => bindF (fbF .add x y) fun t => forceB (ltF t 0) fun t => match t with
  | true => neg R s1 s2 fun s1 s2 => add R a b s1 s2 fun x y => scl R x y 4602678819172646912 k
  | false => add R a b s1 s2 fun x y => scl R x y 4602678819172646912 k
def joukOtherB (jb : KMZ) (sqr : KMC) (div : KCCC) : KMZ := fun R m a b ke k => jb R m a b ke fun x y => sqr R m fun u v => div R u v x y k

def atLB (L : List Int) (chk : KMI) (pl : KCB) (mo : KMZ) (fin : KCB) : KMZ := fun R m a b ke k => chk R m fun e => forceB (e != 0) fun t => match t with
  | true => ke e
  | false => pl R a b fun t => forceB t fun t => match t with
    | false => ke 5
    | true => mo R m a b (fun e => errIn L e ke) fun x y => fin R x y fun t => forceB t fun t => match t with
      | false => ke 6
      | true => k x y

def sAt (g1 g2 : KMZ) : Sum := fun R args k => match args with
  | [v, .complex .f64 a b] => oneM v fun i m => bif i == 1 then g1 R m a b (zErrL [5, 6, 180] k) (zOk k) else bif i == 2 then g2 R m a b (zErrL [5, 6, 180] k) (zOk k) else none
  | _ => none
def sBack (g1 g2 g3 : KMZ) : Sum := fun R args k => match args with
  | [v, .complex .f64 a b, .bool t] => oneM v fun i m => match t with
    | true => bif i == 2 then g3 R m a b (zErrL [5, 6, 180] k) (zOk k) else none
    | false => bif i == 1 then g1 R m a b (zErrL [5, 6, 180, 181] k) (zOk k) else bif i == 2 then g2 R m a b (zErrL [5, 6, 180] k) (zOk k) else none
  | _ => none

structure G2 where
  x : Int
  y : Int
def gv (g : G2) : Value := .agg ⟨[.int .i16 g.x, .int .i16 g.y]⟩

def thereRest (of_ : KGC) (at2 bk2 bk3 : KMZ) (near : KCCFB) {R : Type} (a p : G2) (z1 z2 : Nat) (k : Bool → Option R) : Option R :=
  of_ R a.x a.y fun a1 a2 => at2 R ⟨a1, a2, 0, 0, 0, 0, 0, 0, 0⟩ z1 z2
    (fun e => errIn [5, 6, 180] e fun _ => eq2 a.x a.y 0 0 fun t => match t with
      | true => k true
      | false => eq2 p.x p.y 0 0 k)
    fun v1 v2 => bk2 R ⟨a1, a2, 0, 0, 0, 0, 0, 0, 0⟩ v1 v2
      (fun e => errIn [5, 6, 180] e fun _ => bk3 R ⟨a1, a2, 0, 0, 0, 0, 0, 0, 0⟩ v1 v2 (fun e => errIn [5, 6, 180] e fun _ => k false) fun _ _ => k false)
      fun b1 b2 => bk3 R ⟨a1, a2, 0, 0, 0, 0, 0, 0, 0⟩ v1 v2 (fun e => errIn [5, 6, 180] e fun _ => k false)
        fun c1 c2 => near R b1 b2 z1 z2 4544132024016830464 fun s => forceB s fun s => near R c1 c2 z1 z2 4544132024016830464 fun t => forceB t fun t => match s with
          | true => k true
          | false => k t

def thereLaw (up : KGB) (of_ : KGC) (small : KFrB) (fr : KFrM) (at1 at2 bk1 bk2 bk3 : KMZ) (near : KCCFB) : ∀ R : Type, Fr → G2 → G2 → (Bool → Option R) → Option R := fun R f a p k =>
  small R f fun t => forceB t fun t => match t with
  | false => k true
  | true => up R a.x a.y fun t => forceB t fun t => match t with
    | false => k true
    | true => up R p.x p.y fun t => forceB t fun t => match t with
      | false => k true
      | true => of_ R p.x p.y fun z1 z2 => fr R f fun m => at1 R m z1 z2
          (fun e => errIn [5, 6, 180] e fun _ => thereRest of_ at2 bk2 bk3 near a p z1 z2 k)
          fun w1 w2 => bk1 R m w1 w2 (fun e => errIn [5, 6, 180, 181] e fun _ => k false)
            fun b1 b2 => near R b1 b2 z1 z2 4517110426252607488 fun t => forceB t fun t => match t with
            | false => k false
            | true => thereRest of_ at2 bk2 bk3 near a p z1 z2 k
end Go.Vm
namespace Go.Vm
set_option linter.unusedVariables false

/-! ### Elements -/
def el (kind : Int) (a1 a2 s1 s2 p : Nat) : Value := .agg ⟨[.int .u8 kind, .complex .f64 a1 a2, .complex .f64 s1 s2, .float .f64 p]⟩
abbrev KEI := ∀ R : Type, Int → Nat → Nat → Nat → Nat → Nat → (Int → Option R) → Option R
def sEI (g : KEI) : Sum := fun R args k => match args with
  | [.agg ⟨[.int .u8 kind, .complex .f64 a1 a2, .complex .f64 s1 s2, .float .f64 p]⟩] => g R kind a1 a2 s1 s2 p fun e => k (.int .i64 e)
  | _ => none

/-- Check -/
def checkB (re : KCB) (wi : KFFB) (no : KCB) (wh : KFB) : KEI := fun R kind a1 a2 s1 s2 p k =>
  forceB (decide (kind < 1)) fun t => match t with
  | true => k 150
  | false => forceB (decide (kind > 4)) fun t => match t with
    | true => k 150
    | false => re R a1 a2 fun t => forceB t fun t => match t with
      | false => k 5
      | true => re R s1 s2 fun t => forceB t fun t => match t with
        | false => k 5
        | true => wi R p 4787326403894837248 fun t => forceB t fun t => match t with
          | false => k 5
          | true => forceB (kind == 1) fun t => match t with
            | true => no R a1 a2 fun t => forceB t fun t => match t with
              | true => forceB (eqF p 0) fun t => match t with | true => k 0 | false => k 150
              | false => k 150
            | false => forceB (kind == 2) fun t => match t with
              | true => forceB (eqF p 0) fun t => match t with | true => k 0 | false => k 150
              | false => forceB (kind == 3) fun t => match t with
                | true => wh R p fun t => forceB t fun t => match t with
                  | true => forceB (geF p 4607182418800017408) fun t => match t with
                    | true => forceB (leF p 4620693217682128896) fun t => match t with | true => k 0 | false => k 150
                    | false => k 150
                  | false => k 150
                | false => forceB (kind == 4) fun t => match t with
                  | true => forceB (geF p 4598175219545276416) fun t => match t with
                    | true => forceB (leF p 4616189618054758400) fun t => match t with | true => k 0 | false => k 150
                    | false => k 150
                  | false => k 150

/-- a value, if it is finite -/
def toldE {R : Type} (fin : KCB) (er : Int → Option R) (k : Nat → Nat → Option R) (x y : Nat) : Option R :=
  fin R x y fun t => forceB t fun t => match t with | true => k x y | false => er 6

/-- Speed, of a stream -/
def spS (chk : KEI) (re no fin : KCB) (sub : KCCC) : ∀ R : Type, Nat → Nat → Nat → Nat → Nat → Nat → (Int → Option R) → (Nat → Nat → Option R) → Option R := fun R a1 a2 s1 s2 z1 z2 er k =>
  chk R 1 a1 a2 s1 s2 0 fun e => match decide (e = 0) with
    | false => er e
    | true => re R z1 z2 fun t => forceB t fun t => match t with
      | false => er 5
      | true => sub R z1 z2 a1 a2 fun d1 d2 => no R d1 d2 fun t => forceB t fun t => match t with
        | true => toldE fin er k s1 s2
        | false => toldE fin er k s1 s2
/-- of a source -/
def spO (chk : KEI) (re no fin : KCB) (sub div : KCCC) (scl : KCFC) : ∀ R : Type, Nat → Nat → Nat → Nat → Nat → Nat → (Int → Option R) → (Nat → Nat → Option R) → Option R := fun R a1 a2 s1 s2 z1 z2 er k =>
  chk R 2 a1 a2 s1 s2 0 fun e => match decide (e = 0) with
    | false => er e
    | true => re R z1 z2 fun t => forceB t fun t => match t with
      | false => er 5
      | true => scl R s1 s2 4594902181429758083 fun c1 c2 => sub R z1 z2 a1 a2 fun d1 d2 => no R d1 d2 fun t => forceB t fun t => match t with
        | true => er 6
        | false => div R c1 c2 d1 d2 (toldE fin er k)
/-- of a doublet -/
def spD (chk : KEI) (re no fin : KCB) (sub div mul : KCCC) (scl : KCFC) : ∀ R : Type, Nat → Nat → Nat → Nat → Nat → Nat → (Int → Option R) → (Nat → Nat → Option R) → Option R := fun R a1 a2 s1 s2 z1 z2 er k =>
  chk R 3 a1 a2 s1 s2 4607182418800017408 fun e => match decide (e = 0) with
    | false => er e
    | true => re R z1 z2 fun t => forceB t fun t => match t with
      | false => er 5
      | true => sub R z1 z2 a1 a2 fun d1 d2 => no R d1 d2 fun t => forceB t fun t => match t with
        | true => er 6
        | false => scl R s1 s2 13830554455654793216 fun t1 t2 => mul R d1 d2 d1 d2 fun q1 q2 => div R t1 t2 q1 q2 (toldE fin er k)

def vErr {R : Type} (k : Value → Option R) (e : Int) : Option R := k (.tuple ⟨[.complex .f64 0 0, .int .i64 e]⟩)
def sSp (f1 f2 f3 : ∀ R : Type, Nat → Nat → Nat → Nat → Nat → Nat → (Int → Option R) → (Nat → Nat → Option R) → Option R) : Sum := fun R args k => match args with
  | [.agg ⟨[.int .u8 kind, .complex .f64 a1 a2, .complex .f64 s1 s2, .float .f64 p]⟩, .complex .f64 z1 z2] =>
    bif kind == 1 && Nat.beq p 0 then f1 R a1 a2 s1 s2 z1 z2 (vErr k) (zOk k)
    else bif kind == 2 && Nat.beq p 0 then f2 R a1 a2 s1 s2 z1 z2 (vErr k) (zOk k)
    else bif kind == 3 && Nat.beq p 4607182418800017408 then f3 R a1 a2 s1 s2 z1 z2 (vErr k) (zOk k)
    else none
  | _ => none

/-- whole, of 1 and of nought -/
def sWh1 : Sum := fun R args k => match args with
  | [.float .f64 p] => bif Nat.beq p 4607182418800017408 then k (.bool true) else none
  | _ => none
def wh1 : KFB := fun R p k => bif Nat.beq p 4607182418800017408 then k true else none
/-- Whole, of the power 2 -/
def sW2 (mul : KCCC) : Sum := fun R args k => match args with
  | [.complex .f64 a b, .int .i64 n] => bif n == 2 then mul R a b a b fun x y => k (.complex .f64 x y) else none
  | _ => none

/-! ### Sines and cosines -/
abbrev KFF2 := ∀ R : Type, Nat → (Nat → Nat → Option R) → Option R
def sFF2 (g : KFF2) : Sum := fun R args k => match args with
  | [.float .f64 y] => g R y fun s c => k (.tuple ⟨[.float .f64 s, .float .f64 c]⟩)
  | _ => none
def stepsR {R : Type} (z : Nat) : List (Nat × Nat) → Nat → Nat → (Nat → Nat → Option R) → Option R
  | [], s, c, k => k s c
  | (a, b) :: r, s, c, k => bindF (fbF .quo z a) fun x => bindF (fbF .mul x s) fun x => bindF (fbF .sub 4607182418800017408 x) fun s =>
      bindF (fbF .quo z b) fun x => bindF (fbF .mul x c) fun x => bindF (fbF .sub 4607182418800017408 x) fun c => stepsR z r s c k
def stepsL : List (Nat × Nat) := [(4644724143818801152, 4644090825121202176), (4643492690795692032, 4642648265865560064), (4641592734702895104, 4640607572284407808), (4639692778610098176, 4638848353679966208), (4637440978796412928, 4636033603912859648), (4634766966517661696, 4633078116657397760), (4631107791820423168, 4629137466983448576), (4626322717216342016, 4622945017495814144), (4618441417868443648, 4611686018427387904)]
def stepsK : KFF2 := fun R y k => bindF (fbF .mul y y) fun z => stepsR z stepsL 4607182418800017408 4607182418800017408 fun s c => bindF (fbF .mul y s) fun s => k s c

/-! ### Functions without a body -/
def xFrom : Sum := fun R args k => match args with
  | [.int .u64 n] => forceN n.toNat fun x => k (.float .f64 x)
  | _ => none
def xBits : Sum := fun R args k => match args with
  | [.float .f64 b] => fiReal R (b : Int) fun n => k (.int .u64 n)
  | _ => none
def xWhole (way : Ieee.Toward) : Sum := fun R args k => match args with
  | [.float .f64 x] => match Ieee.double.read x with
    | .nan _ _ => none
    | d => forceN (Ieee.double.write (d.integral way)) fun y => k (.float .f64 y)
  | _ => none
end Go.Vm
namespace Go.Vm
open Ieee
set_option linter.unusedVariables false
set_option linter.unusedSimpArgs false

/-! ### Quotients -/
structure Rnd2 (x z : Rat) : Prop where
  near : (z - x).abs ≤ x.abs * (2 : Rat) ^ (-52 : Int) ∨ (z - x).abs ≤ (2 : Rat) ^ (-1074 : Int)
  rep : ∀ (K : Int) (q : Int), K.natAbs < 2 ^ 53 → -1074 ≤ q → x = K * (2 : Rat) ^ q → z = x

theorem abs_zero : ((0 : Rat)).abs = 0 := by rw [Rat.abs_of_nonneg (by decide)]
theorem abs_add_le (x y : Rat) : (x + y).abs ≤ x.abs + y.abs := by
  rw [abs_le_iff]
  have h1 := (abs_le_iff (x := x) (y := x.abs)).1 Rat.le_refl
  have h2 := (abs_le_iff (x := y) (y := y.abs)).1 Rat.le_refl
  grind
theorem abs_neg (x : Rat) : (-x).abs = x.abs := by
  have := abs_mul (-1) x
  rw [show (-1 : Rat) * x = -x by grind] at this
  rw [this]
  have : ((-1 : Rat)).abs = 1 := by rw [Rat.abs_of_nonpos (by decide)]; rfl
  rw [this]; grind
theorem abs_sub_comm (x y : Rat) : (x - y).abs = (y - x).abs := by rw [← abs_neg (x - y)]; congr 1; grind

theorem p2_one : (2 : Rat) ^ (1 : Int) = 2 := by simp
theorem p2_succ (q : Int) : (2 : Rat) ^ (q + 1) = 2 * (2 : Rat) ^ q := by rw [p2_add, p2_one]; grind
theorem p2_half (q : Int) : (2 : Rat) ^ q = 2 * (2 : Rat) ^ (q - 1) := by rw [← p2_succ]; congr 1; omega

/-- A quotient with its sticky digit: the value that is rounded, and the true one. -/
theorem quotient_val {s t : Bool} {m n : Nat} {i j : Int} (hn : n ≠ 0) : ∃ b k e, Datum.quotient 54 (.number s m i) (.number t n j) = some (.number b k e) ∧
    (dv b k e - dv s m i / dv t n j).abs ≤ (dv s m i / dv t n j).abs * (2 : Rat) ^ (-54 : Int) ∧
    (∀ (K : Int) (q : Int), K.natAbs < 2 ^ 53 → dv s m i / dv t n j = K * (2 : Rat) ^ q → dv b k e = dv s m i / dv t n j) := by
  refine ⟨_, _, _, by unfold Datum.quotient; simp only [hn, if_false]; rfl, ?_⟩
  have hn0 : (0 : Rat) < (n : Rat) := by exact_mod_cast Nat.pos_of_ne_zero hn
  generalize hmore : 54 + n.log2 - m.log2 = more
  generalize hD : m <<< more = D
  have hDm : D = m * 2 ^ more := by rw [← hD, Nat.shiftLeft_eq]
  have hE0 := p2_pos (i - j - more)
  have hj0 := p2_pos j
  have hi0 := p2_pos i
  have hq : dv s m i / dv t n j = sg (s ^^ t) * (((D : Rat) / n) * (2 : Rat) ^ (i - j - more)) := by
    have e1 : (2 : Rat) ^ i = (2 : Rat) ^ (i - j - more) * (2 : Rat) ^ j * (2 : Rat) ^ (more : Int) := by
      rw [← p2_add, ← p2_add]; congr 1; omega
    have e2 : (D : Rat) = m * (2 : Rat) ^ (more : Int) := by rw [hDm, p2_nat]; push_cast; rfl
    have hu : dv t n j ≠ 0 := by
      unfold dv
      intro h
      rcases Rat.mul_eq_zero.1 h with h | h
      · cases t <;> simp [sg] at h <;> grind
      · rcases Rat.mul_eq_zero.1 h with h | h <;> grind
    have hd : (D : Rat) / n * n = D := Rat.div_mul_cancel (by grind)
    rw [Rat.div_def]
    have hx : dv s m i = sg (s ^^ t) * (((D : Rat) / n) * (2 : Rat) ^ (i - j - more)) * dv t n j := by
      unfold dv
      rw [sg_xor, e1]
      have hs2 : sg t * sg t = 1 := by cases t <;> simp [sg] <;> grind
      have : sg s * sg t * ((D : Rat) / n * (2 : Rat) ^ (i - j - more)) * (sg t * (n * (2 : Rat) ^ j)) = sg s * (sg t * sg t) * (((D : Rat) / n * n) * (2 : Rat) ^ (i - j - more) * (2 : Rat) ^ j) := by grind
      rw [this, hs2, hd, e2]
      grind
    rw [hx, Rat.mul_assoc, Rat.mul_inv_cancel _ hu]
    grind
  have hdm := Nat.div_add_mod D n
  have hlt := Nat.mod_lt D (Nat.pos_of_ne_zero hn)
  have hdmr : (n : Rat) * ((D / n : Nat) : Rat) + ((D % n : Nat) : Rat) = D := by exact_mod_cast congrArg (fun z : Nat => (z : Rat)) hdm
  have hval : ((D : Rat) / n) = ((D / n : Nat) : Rat) + ((D % n : Nat) : Rat) / n := by
    have h1 : ((D : Rat) / n) * n = D := Rat.div_mul_cancel (by grind)
    have h2 : (((D % n : Nat) : Rat) / n) * n = ((D % n : Nat) : Rat) := Rat.div_mul_cancel (by grind)
    have h3 : ((D : Rat) / n - (((D / n : Nat) : Rat) + ((D % n : Nat) : Rat) / n)) * n = 0 := by grind
    rcases Rat.mul_eq_zero.1 h3 with h | h <;> grind
  have hfl : m ≠ 0 → 2 ^ 53 ≤ D / n := fun hm => by
    rw [Nat.le_div_iff_mul_le (Nat.pos_of_ne_zero hn)]
    have h1 : 2 ^ m.log2 ≤ m := Nat.log2_self_le hm
    have h2 : n < 2 ^ (n.log2 + 1) := Nat.lt_log2_self
    have h3 : 2 ^ m.log2 * 2 ^ more ≤ D := by rw [hDm]; exact Nat.mul_le_mul_right _ h1
    rw [← Nat.pow_add] at h3
    have h4 : 2 ^ (54 + n.log2) ≤ 2 ^ (m.log2 + more) := Nat.pow_le_pow_right (by decide) (by omega)
    have h5 : 2 ^ 53 * n ≤ 2 ^ 53 * 2 ^ (n.log2 + 1) := Nat.mul_le_mul_left _ (by omega)
    rw [← Nat.pow_add, show 53 + (n.log2 + 1) = 54 + n.log2 by omega] at h5
    omega
  generalize hf : D / n = f at *
  generalize hr : D % n = r at *
  have hb : dv (s ^^ t) (2 * f + (r != 0).toNat) (i - j - more - 1) = sg (s ^^ t) * (((f : Rat) + (if r = 0 then 0 else 1 / 2)) * (2 : Rat) ^ (i - j - more)) := by
    unfold dv
    rw [p2_half (i - j - more)]
    by_cases h0 : r = 0
    · simp [h0]; grind
    · have : (r != 0) = true := by simp [h0]
      simp only [this, Bool.toNat_true, h0, if_false]
      push_cast
      grind
  have hr0 : (0 : Rat) ≤ (r : Rat) / n := by
    have h1 : (r : Rat) / n * n = r := Rat.div_mul_cancel (by grind)
    have h2 : (0 : Rat) ≤ (r : Rat) := by exact_mod_cast Nat.zero_le _
    refine Rat.not_lt.1 fun hlt' => ?_
    have := Rat.mul_lt_mul_of_pos_right hlt' hn0
    grind
  have hr1 : (r : Rat) / n < 1 := by
    have h1 : (r : Rat) / n * n = r := Rat.div_mul_cancel (by grind)
    have h2 : (r : Rat) < (n : Rat) := nat_cast_lt hlt
    refine Rat.not_le.1 fun hle' => ?_
    have := Rat.mul_le_mul_of_nonneg_right hle' (Rat.le_of_lt hn0)
    grind
  generalize hR : (r : Rat) / n = rho at *
  constructor
  · rw [hb, hq, hval]
    by_cases h0 : r = 0
    · have hrho : rho = 0 := by
        have : (r : Rat) = 0 := by simp [h0]
        rw [← hR, this, Rat.div_def]; simp
      simp only [h0, if_true, hrho]
      rw [Rat.sub_self, abs_zero]
      exact Rat.mul_nonneg (abs_nonneg _) (Rat.le_of_lt (p2_pos _))
    · have hm : m ≠ 0 := by
        rintro rfl
        have : D = 0 := by simp [hDm]
        rw [this] at hr
        simp at hr
        exact h0 hr.symm
      simp only [h0, if_false]
      have e1 : sg (s ^^ t) * (((f : Rat) + 1 / 2) * (2 : Rat) ^ (i - j - more)) - sg (s ^^ t) * ((f + rho) * (2 : Rat) ^ (i - j - more)) = sg (s ^^ t) * ((1 / 2 - rho) * (2 : Rat) ^ (i - j - more)) := by grind
      rw [e1, sg_abs, sg_abs, abs_mul, abs_mul]
      have e2 : (1 / 2 - rho).abs ≤ 1 / 2 := by rw [abs_le_iff]; constructor <;> grind
      have e3 : ((2 : Rat) ^ (53 : Int)) ≤ ((f : Rat) + rho).abs := by
        have h1 : ((2 ^ 53 : Nat) : Rat) ≤ (f : Rat) := nat_cast_le (hfl hm)
        have h2 : (2 : Rat) ^ (53 : Int) = ((2 ^ 53 : Nat) : Rat) := p2_nat 53
        have h3 := (abs_le_iff (x := (f : Rat) + rho) (y := ((f : Rat) + rho).abs)).1 Rat.le_refl
        rw [h2]
        grind
      have e4 : (2 : Rat) ^ (53 : Int) * (2 : Rat) ^ (-54 : Int) = 1 / 2 := by
        rw [← p2_add, show (53 + -54 : Int) = -1 by decide]
        have := p2_half 0
        rw [Rat.zpow_zero, show (0 - 1 : Int) = -1 by decide] at this
        grind
      have e5 := Rat.mul_le_mul_of_nonneg_right e3 (Rat.le_of_lt (p2_pos (-54)))
      rw [e4] at e5
      have e6 : ((2 : Rat) ^ (i - j - more)).abs = (2 : Rat) ^ (i - j - more) := Rat.abs_of_nonneg (Rat.le_of_lt hE0)
      rw [e6]
      have e7 := Rat.mul_le_mul_of_nonneg_right (Rat.le_trans e2 e5) (Rat.le_of_lt hE0)
      grind
  · intro K q hK he
    rw [hb, hq, hval]
    by_cases h0 : r = 0
    · have hrho : rho = 0 := by
        have : (r : Rat) = 0 := by simp [h0]
        rw [← hR, this, Rat.div_def]; simp
      simp only [h0, if_true, hrho]
    · exfalso
      have hm : m ≠ 0 := by
        rintro rfl
        have : D = 0 := by simp [hDm]
        rw [this] at hr
        simp at hr
        exact h0 hr.symm
      rw [hq, hval] at he
      have habs := congrArg Rat.abs he
      rw [sg_abs, abs_mul, abs_mul] at habs
      have e6 : ((2 : Rat) ^ (i - j - more)).abs = (2 : Rat) ^ (i - j - more) := Rat.abs_of_nonneg (Rat.le_of_lt hE0)
      have e7 : ((2 : Rat) ^ q).abs = (2 : Rat) ^ q := Rat.abs_of_nonneg (Rat.le_of_lt (p2_pos q))
      have hf0 : (0 : Rat) ≤ (f : Rat) := by exact_mod_cast Nat.zero_le _
      have e8 : ((f : Rat) + rho).abs = f + rho := Rat.abs_of_nonneg (by grind)
      have e9 : ((K : Rat)).abs = ((K.natAbs : Nat) : Rat) := by
        have := dv_abs (decide (K < 0)) K.natAbs 0
        rw [int_dv K (decide (K < 0)) 0 fun _ => rfl] at this
        simpa using this
      rw [e6, e7, e8, e9] at habs
      -- the unit divides
      have h1 : ((2 ^ 53 : Nat) : Rat) ≤ (f : Rat) := nat_cast_le (hfl hm)
      have h2 : ((K.natAbs : Nat) : Rat) < ((2 ^ 53 : Nat) : Rat) := nat_cast_lt hK
      have hlt2 : i - j - more < q := by
        refine p2_lt_of (Rat.not_le.1 fun hle => ?_)
        have g1 : ((K.natAbs : Nat) : Rat) * (2 : Rat) ^ q ≤ ((K.natAbs : Nat) : Rat) * (2 : Rat) ^ (i - j - more) := Rat.mul_le_mul_of_nonneg_left hle (by exact_mod_cast Nat.zero_le _)
        have g2 : ((K.natAbs : Nat) : Rat) * (2 : Rat) ^ (i - j - more) < ((f : Rat) + rho) * (2 : Rat) ^ (i - j - more) := Rat.mul_lt_mul_of_pos_right (by grind) hE0
        grind
      obtain ⟨c, hc⟩ := Int.eq_ofNat_of_zero_le (show 0 ≤ q - (i - j - more) by omega)
      have h3 : ((f : Rat) + rho) = ((K.natAbs * 2 ^ c : Nat) : Rat) := by
        have g3 : (2 : Rat) ^ q = (2 : Rat) ^ (c : Int) * (2 : Rat) ^ (i - j - more) := by rw [← p2_add]; congr 1; omega
        rw [g3, p2_nat] at habs
        have g4 : (((f : Rat) + rho) - ((K.natAbs * 2 ^ c : Nat) : Rat)) * (2 : Rat) ^ (i - j - more) = 0 := by push_cast at *; grind
        rcases Rat.mul_eq_zero.1 g4 with h | h <;> grind
      have h4 : rho = 0 := by
        have g5 : (f : Rat) ≤ ((K.natAbs * 2 ^ c : Nat) : Rat) := by grind
        have g6 : ((K.natAbs * 2 ^ c : Nat) : Rat) < ((f + 1 : Nat) : Rat) := by push_cast at *; grind
        have g7 : f ≤ K.natAbs * 2 ^ c := by exact_mod_cast g5
        have g8 : K.natAbs * 2 ^ c < f + 1 := nat_of_lt g6
        have g9 : K.natAbs * 2 ^ c = f := by omega
        rw [g9] at h3
        grind
      have h5 : (r : Rat) = 0 := by
        have := Rat.div_mul_cancel (a := (r : Rat)) (b := (n : Rat)) (by grind)
        rw [hR, h4] at this
        grind
      exact h0 (by exact_mod_cast h5)

theorem abs_le_self (x : Rat) : x ≤ x.abs ∧ -x.abs ≤ x := by
  have := (abs_le_iff (x := x) (y := x.abs)).1 Rat.le_refl
  grind

theorem tri {x y z : Rat} : (x - z).abs ≤ (x - y).abs + (y - z).abs := by
  have := abs_add_le (x - y) (y - z)
  rw [show x - y + (y - z) = x - z by grind] at this
  exact this

theorem div_is {a b : Nat} {x y : Rat} (ha : Is a x) (hb : Is b y) (hy : y ≠ 0) (h : (x / y).abs < (2 : Rat) ^ (1022 : Int)) :
    ∃ r z, fbF .quo a b = some r ∧ Is r z ∧ Rnd2 (x / y) z := by
  obtain ⟨_, s, m, i, h1, rfl⟩ := ha
  obtain ⟨_, t, n, j, h2, rfl⟩ := hb
  have hn : n ≠ 0 := by rintro rfl; exact hy (dv_zero _ _)
  obtain ⟨c, k, e, h3, h4, h5⟩ := @quotient_val s t m n i j hn
  generalize dv s m i / dv t n j = q at *
  generalize hd : dv c k e = v at *
  have hv : v.abs ≤ q.abs + q.abs * (2 : Rat) ^ (-54 : Int) := by
    have := abs_add_le (v - q) q
    rw [show v - q + q = v by grind] at this
    grind
  have p54 : (2 : Rat) ^ (-54 : Int) ≤ 1 := by
    have := p2_le (show (-54 : Int) ≤ 0 by decide)
    rwa [Rat.zpow_zero] at this
  have hq0 := abs_nonneg q
  have hlt : v.abs < (2 : Rat) ^ (1023 : Int) := by
    have g1 := Rat.mul_le_mul_of_nonneg_left p54 hq0
    have g2 := p2_half 1023
    rw [show (1023 - 1 : Int) = 1022 by decide] at g2
    grind
  rw [← hd] at hlt
  obtain ⟨z, g1, g2⟩ := number_is hlt
  rw [hd] at g2
  refine ⟨_, z, ?_, g1, ?_, ?_⟩
  · rw [fbF_eq]
    show double.div a b = _
    unfold Format.div
    rw [h1, h2]
    have : double.fractionBits + 2 = 54 := by decide
    rw [this, h3]
    rfl
  · have ht := @tri z v q
    have e53 : (2 : Rat) ^ (-53 : Int) = 2 * (2 : Rat) ^ (-54 : Int) := p2_half (-53)
    have e52 : (2 : Rat) ^ (-52 : Int) = 2 * (2 : Rat) ^ (-53 : Int) := p2_half (-52)
    have f1 : q.abs * (2 : Rat) ^ (-54 : Int) ≤ q.abs := by have := Rat.mul_le_mul_of_nonneg_left p54 hq0; grind
    have p0 := p2_pos (-54)
    have p1 := p2_pos (-53)
    rcases g2.near with h | h
    · left
      have f2 : v.abs * (2 : Rat) ^ (-53 : Int) ≤ (q.abs + q.abs * (2 : Rat) ^ (-54 : Int)) * (2 : Rat) ^ (-53 : Int) := Rat.mul_le_mul_of_nonneg_right hv (Rat.le_of_lt p1)
      have p53 : (2 : Rat) ^ (-53 : Int) ≤ 1 / 2 := by
        have := p2_le (show (-53 : Int) ≤ -1 by decide)
        have h0 := p2_half 0
        rw [Rat.zpow_zero, show (0 - 1 : Int) = -1 by decide] at h0
        grind
      have f3 := Rat.mul_le_mul_of_nonneg_left p53 (Rat.mul_nonneg hq0 (Rat.le_of_lt p0))
      grind
    · by_cases hc : q.abs * (2 : Rat) ^ (-54 : Int) ≤ (2 : Rat) ^ (-1075 : Int)
      · right
        have := p2_half (-1074)
        rw [show (-1074 - 1 : Int) = -1075 by decide] at this
        grind
      · left
        have f4 := Rat.mul_nonneg hq0 (Rat.le_of_lt p0)
        grind
  · intro K q' hK hq' he
    have hx := h5 K q' hK he
    rw [hx] at g2
    exact g2.rep K q' hK hq' he

/-! ### Roots -/
theorem rootFrom_spec (n : Nat) : ∀ (todo root : Nat), root * root ≤ n → n < (root + 2 ^ todo) * (root + 2 ^ todo) →
    Datum.rootFrom n todo root * Datum.rootFrom n todo root ≤ n ∧ n < (Datum.rootFrom n todo root + 1) * (Datum.rootFrom n todo root + 1)
  | 0, root, h1, h2 => by
    unfold Datum.rootFrom
    exact ⟨h1, by simpa using h2⟩
  | todo + 1, root, h1, h2 => by
    unfold Datum.rootFrom
    simp only [Nat.shiftLeft_eq, Nat.one_mul]
    split
    · rename_i h
      refine rootFrom_spec n todo _ h ?_
      have : root + 2 ^ todo + 2 ^ todo = root + 2 ^ (todo + 1) := by rw [Nat.pow_succ]; omega
      rw [this]; exact h2
    · rename_i h
      exact rootFrom_spec n todo _ h1 (by omega)

theorem root_val {m : Nat} {i : Int} (hm : m ≠ 0) : ∃ k e, Datum.root 54 (.number false m i) = some (.number false k e) ∧
    (dv false k e * dv false k e - dv false m i).abs ≤ dv false m i * (2 : Rat) ^ (-53 : Int) ∧ 0 < dv false k e := by
  refine ⟨_, _, by unfold Datum.root; simp only [hm, if_false, Bool.false_eq_true]; rfl, ?_⟩
  generalize hmore : 2 * 54 - m.log2 = more
  have hpar : (i - ((more + ((i - (more : Int)) % 2).toNat : Nat) : Int)) % 2 = 0 := by omega
  generalize hm2 : more + ((i - (more : Int)) % 2).toNat = mo at *
  have hmo : 108 - m.log2 ≤ mo := by omega
  generalize hn : m <<< mo = n
  have hnm : n = m * 2 ^ mo := by rw [← hn, Nat.shiftLeft_eq]
  have hL1 : 2 ^ m.log2 ≤ m := Nat.log2_self_le hm
  have hn108 : 2 ^ 54 * 2 ^ 54 ≤ n := by
    rw [hnm, ← Nat.pow_add]
    have h1 := Nat.mul_le_mul_right (2 ^ mo) hL1
    rw [← Nat.pow_add] at h1
    have h2 : 2 ^ (54 + 54) ≤ 2 ^ (m.log2 + mo) := Nat.pow_le_pow_right (by decide) (by omega)
    omega
  obtain ⟨r1, r2⟩ := rootFrom_spec n (n.log2 / 2 + 1) 0 (by omega) (by
    have h1 : n < 2 ^ (n.log2 + 1) := Nat.lt_log2_self
    have h2 : 2 ^ (n.log2 + 1) ≤ 2 ^ ((n.log2 / 2 + 1) + (n.log2 / 2 + 1)) := Nat.pow_le_pow_right (by decide) (by omega)
    rw [Nat.pow_add 2 (n.log2 / 2 + 1) (n.log2 / 2 + 1)] at h2
    simp only [Nat.zero_add]
    omega)
  generalize Datum.rootFrom n (n.log2 / 2 + 1) 0 = w at *
  have hw : 2 ^ 54 ≤ w := by
    refine Nat.not_lt.1 fun hlt => ?_
    have := Nat.mul_le_mul (show w + 1 ≤ 2 ^ 54 by omega) (show w + 1 ≤ 2 ^ 54 by omega)
    omega
  generalize hE : (i - (mo : Int)) / 2 = E at *
  have hiE : i = (mo : Int) + (E + E) := by omega
  have hu := p2_pos E
  have hx : dv false m i = (n : Rat) * ((2 : Rat) ^ E * (2 : Rat) ^ E) := by
    unfold dv sg
    rw [hiE, p2_add, p2_add, p2_nat, hnm]
    push_cast
    simp
    grind
  have hv : dv false (2 * w + (w * w != n).toNat) (E - 1) = ((w : Rat) + (if w * w = n then 0 else 1 / 2)) * (2 : Rat) ^ E := by
    unfold dv sg
    rw [p2_half E]
    by_cases h0 : w * w = n
    · have : (w * w != n) = false := by simp [h0]
      simp only [this, Bool.toNat_false, h0, if_true]
      push_cast
      simp
      grind
    · have : (w * w != n) = true := by simp [h0]
      simp only [this, Bool.toNat_true, h0, if_false]
      push_cast
      simp
      grind
  rw [hx, hv]
  have hw0 : (0 : Rat) < (w : Rat) := by have : 0 < w := by omega
                                         exact_mod_cast this
  generalize (2 : Rat) ^ E = u at *
  constructor
  · by_cases h0 : w * w = n
    · simp only [h0, if_true]
      have : ((n : Nat) : Rat) = (w : Rat) * w := by rw [← h0]; push_cast; rfl
      have e : (((w : Rat) + 0) * u * (((w : Rat) + 0) * u) - (n : Rat) * (u * u)) = 0 := by rw [this]; grind
      rw [e, abs_zero]
      have h1 : (0 : Rat) ≤ (n : Rat) := by exact_mod_cast Nat.zero_le _
      exact Rat.mul_nonneg (Rat.mul_nonneg h1 (Rat.mul_nonneg (Rat.le_of_lt hu) (Rat.le_of_lt hu))) (Rat.le_of_lt (p2_pos _))
    · simp only [h0, if_false]
      have e : (((w : Rat) + 1 / 2) * u * (((w : Rat) + 1 / 2) * u) - (n : Rat) * (u * u)) = ((w : Rat) * w + w + 1 / 4 - n) * (u * u) := by grind
      rw [e, abs_mul, Rat.abs_of_nonneg (Rat.mul_nonneg (Rat.le_of_lt hu) (Rat.le_of_lt hu))]
      have n1 : w * w + 1 ≤ n := by omega
      have n2 : n ≤ w * w + w + w := by
        have : (w + 1) * (w + 1) = w * w + w + w + 1 := by grind
        omega
      have q1 : (w : Rat) * w + 1 ≤ n := by exact_mod_cast n1
      have q2 : (n : Rat) ≤ (w : Rat) * w + w + w := by exact_mod_cast n2
      have q3 : ((w : Rat) * w + w + 1 / 4 - n).abs ≤ w := by rw [abs_le_iff]; constructor <;> grind
      have q4 : (w : Rat) ≤ n * (2 : Rat) ^ (-53 : Int) := by
        have f1 : ((2 ^ 53 : Nat) : Rat) ≤ (w : Rat) := nat_cast_le (by omega)
        have f2 : (2 : Rat) ^ (53 : Int) = ((2 ^ 53 : Nat) : Rat) := p2_nat 53
        have f3 : (2 : Rat) ^ (53 : Int) * (2 : Rat) ^ (-53 : Int) = 1 := by rw [← p2_add, show (53 + -53 : Int) = 0 by decide, Rat.zpow_zero]
        have f4 := Rat.mul_le_mul_of_nonneg_left f1 (Rat.le_of_lt hw0)
        rw [← f2] at f4
        have f5 := Rat.mul_le_mul_of_nonneg_right (Rat.le_trans f4 (show (w : Rat) * w ≤ n by grind)) (Rat.le_of_lt (p2_pos (-53)))
        have f6 : (w : Rat) * (2 : Rat) ^ (53 : Int) * (2 : Rat) ^ (-53 : Int) = w := by rw [Rat.mul_assoc, f3]; grind
        rwa [f6] at f5
      have := Rat.mul_le_mul_of_nonneg_right (Rat.le_trans q3 q4) (Rat.mul_nonneg (Rat.le_of_lt hu) (Rat.le_of_lt hu))
      grind
  · refine Rat.mul_pos ?_ hu
    split <;> grind

theorem sqrt_is {a : Nat} {x : Rat} (ha : Is a x) (hx : 0 < x) (hlt : x < (2 : Rat) ^ (1000 : Int)) (hgt : (2 : Rat) ^ (-1000 : Int) < x) :
    ∃ r z, double.sqrt a = some r ∧ Is r z ∧ 0 < z ∧ (z * z - x).abs ≤ x * (2 : Rat) ^ (-51 : Int) := by
  obtain ⟨_, s, m, i, h1, h2⟩ := ha
  have hm : m ≠ 0 := by rintro rfl; rw [dv_zero] at h2; grind
  have hs : s = false := by
    cases s
    · rfl
    · exfalso
      have h3 : (0 : Rat) ≤ (m : Rat) * (2 : Rat) ^ i := Rat.mul_nonneg (by exact_mod_cast Nat.zero_le _) (Rat.le_of_lt (p2_pos i))
      unfold dv sg at h2
      simp only [if_true] at h2
      grind
  subst hs
  obtain ⟨k, e, h3, h4, h5⟩ := @root_val m i hm
  rw [h2] at h4
  generalize hd : dv false k e = v at *
  have e53 : (2 : Rat) ^ (-53 : Int) ≤ 1 / 100 := by
    have h6 := p2_le (show (-53 : Int) ≤ -7 by decide)
    have h7 : (2 : Rat) ^ (-7 : Int) * (2 : Rat) ^ (7 : Int) = 1 := by rw [← p2_add, show (-7 + 7 : Int) = 0 by decide, Rat.zpow_zero]
    have h8 : (2 : Rat) ^ (7 : Int) = 128 := by rw [show (7 : Int) = ((7 : Nat) : Int) by rfl, p2_nat]; rfl
    rw [h8] at h7
    grind
  have e51 : (2 : Rat) ^ (-51 : Int) = 4 * (2 : Rat) ^ (-53 : Int) := by
    have h6 := p2_half (-51)
    have h7 := p2_half (-52)
    rw [show (-51 - 1 : Int) = -52 by decide] at h6
    rw [show (-52 - 1 : Int) = -53 by decide] at h7
    grind
  have p53 := p2_pos (-53)
  have hv2 := abs_le_iff.1 h4
  have hxe := Rat.mul_le_mul_of_nonneg_left e53 (Rat.le_of_lt hx)
  have hvlt : v < (2 : Rat) ^ (1023 : Int) := by
    refine Rat.not_le.1 fun hle => ?_
    have h6 : (2 : Rat) ^ (1023 : Int) * (2 : Rat) ^ (1023 : Int) ≤ v * v :=
      Rat.le_trans (Rat.mul_le_mul_of_nonneg_left hle (Rat.le_of_lt (p2_pos 1023))) (Rat.mul_le_mul_of_nonneg_right hle (Rat.le_of_lt h5))
    rw [← p2_add] at h6
    have h7 := p2_le (show (1001 : Int) ≤ 1023 + 1023 by decide)
    have h8 := p2_half 1001
    rw [show (1001 - 1 : Int) = 1000 by decide] at h8
    grind
  have hvgt : (2 : Rat) ^ (-1000 : Int) ≤ v := by
    refine Rat.not_lt.1 fun hl => ?_
    have h6 : v * v ≤ (2 : Rat) ^ (-1000 : Int) * (2 : Rat) ^ (-1000 : Int) :=
      Rat.le_trans (Rat.mul_le_mul_of_nonneg_left (Rat.le_of_lt hl) (Rat.le_of_lt h5)) (Rat.mul_le_mul_of_nonneg_right (Rat.le_of_lt hl) (Rat.le_of_lt (p2_pos (-1000))))
    rw [← p2_add] at h6
    have h7 := p2_le (show (-1000 + -1000 : Int) ≤ -1001 by decide)
    have h8 := p2_half (-1000)
    rw [show (-1000 - 1 : Int) = -1001 by decide] at h8
    grind
  have hvabs : v.abs = v := Rat.abs_of_nonneg (Rat.le_of_lt h5)
  obtain ⟨z, g1, g2⟩ := number_is (s := false) (m := k) (i := e) (by rw [hd, hvabs]; exact hvlt)
  rw [hd] at g2
  have hD : (z - v).abs ≤ v * (2 : Rat) ^ (-53 : Int) := by
    rcases g2.near with h | h
    · rwa [hvabs] at h
    · have h6 := Rat.mul_le_mul_of_nonneg_right hvgt (Rat.le_of_lt p53)
      rw [← p2_add] at h6
      have h7 := p2_le (show (-1075 : Int) ≤ -1000 + -53 by decide)
      grind
  refine ⟨_, z, ?_, g1, ?_, ?_⟩
  · show Format.sqrt double a = _
    unfold Format.sqrt
    rw [h1]
    have : double.fractionBits + 2 = 54 := by decide
    rw [this, h3]
    rfl
  · have h6 := abs_le_iff.1 hD
    have h7 := Rat.mul_le_mul_of_nonneg_left e53 (Rat.le_of_lt h5)
    grind
  · have h6 := abs_le_iff.1 hD
    generalize (2 : Rat) ^ (-53 : Int) = ep at *
    rw [e51]
    generalize hDD : z - v = D at *
    have hz : z = v + D := by grind
    have h7 := Rat.mul_le_mul_of_nonneg_left h6.1 (Rat.le_of_lt h5)
    have h8 := Rat.mul_le_mul_of_nonneg_left h6.2 (Rat.le_of_lt h5)
    have h9 := Rat.mul_nonneg (show 0 ≤ v * ep - D by grind) (show 0 ≤ v * ep + D by grind)
    have h10 := Rat.mul_le_mul_of_nonneg_left e53 (Rat.mul_nonneg (Rat.mul_nonneg (Rat.le_of_lt h5) (Rat.le_of_lt h5)) (Rat.le_of_lt p53))
    have h11 : 0 ≤ D * D := by
      rcases (Rat.le_total : 0 ≤ D ∨ D ≤ 0) with h | h
      · exact Rat.mul_nonneg h h
      · have := Rat.mul_nonneg (show 0 ≤ -D by grind) (show 0 ≤ -D by grind); grind
    have h12 : v * v ≤ x + x * ep := by grind
    have h13 := Rat.mul_le_mul_of_nonneg_right h12 (Rat.le_of_lt p53)
    have h14 := Rat.mul_le_mul_of_nonneg_left e53 (Rat.mul_nonneg (Rat.le_of_lt hx) (Rat.le_of_lt p53))
    rw [abs_le_iff, hz]
    constructor <;> grind
end Go.Vm
namespace Go.Vm
open Ieee
set_option linter.unusedVariables false
set_option linter.unusedSimpArgs false

def gRest {R : Type} (lk : KCCB) (n : Mp) (x y : Nat) (k : Bool → Option R) : Option R :=
  lk R n.a1 n.a2 x y fun t => forceB t fun t => match t with
  | false => k false
  | true => lk R n.d1 n.d2 x y fun t => forceB t fun t => match t with
    | false => k false
    | true => forceB (eqF n.b1 0) fun s => forceB (eqF n.b2 0) fun t => match s && t with
      | false => k false
      | true => forceB (eqF n.c1 0) fun s => forceB (eqF n.c2 0) fun t => k (s && t)

def gTail {R : Type} (mul sub : KCCC) (lk : KCCB) (l n : Mp) (e : Int) (k : Bool → Option R) : Option R :=
  mul R l.a1 l.a2 l.d1 l.d2 fun x1 x2 => mul R l.b1 l.b2 l.c1 l.c2 fun y1 y2 => sub R x1 x2 y1 y2 fun d1 d2 =>
  forceB (e == 0) fun t => match t with
  | false => k false
  | true => gRest lk n d1 d2 k

def groupB (small : KFrB) (fr : KFrM) (chk : KMI) (thn : KMMM) (alike : KMMB) (turned : KMM) (mul sub : KCCC) (lk : KCCB) : ∀ R : Type, Fr → Fr → Fr → (Bool → Option R) → Option R := fun R f g h k =>
  fr R f fun l => fr R g fun m => fr R h fun n =>
  small R f fun t => forceB t fun t => match t with
  | false => k true
  | true => small R g fun t => forceB t fun t => match t with
    | false => k true
    | true => small R h fun t => forceB t fun t => match t with
      | false => k true
      | true => chk R l fun e => forceB (e != 0) fun t => match t with
        | true => k true
        | false => chk R m fun e => forceB (e != 0) fun t => match t with
          | true => k true
          | false => chk R n fun e => forceB (e != 0) fun t => match t with
            | true => k true
            | false =>
              thn R l m (fun _ => thn R m n (fun _ => none) (fun _ => none)) fun lm =>
              thn R m n (fun _ => thn R lm n (fun _ => none) (fun _ => none)) fun mn =>
              thn R lm n (fun e3 => thn R l mn
                  (fun e4 => forceB (e3 != 0) fun t => match t with | true => k false | false => forceB (e4 != 0) fun t => match t with | true => k false | false => none)
                  (fun _ => forceB (e3 != 0) fun t => match t with | true => k false | false => none)) fun left =>
              thn R l mn (fun e4 => forceB (e4 != 0) fun t => match t with | true => k false | false => none) fun right =>
              alike R left right fun t => forceB t fun t => match t with
              | false => k false
              | true => turned R l (fun _ => none) fun back =>
                thn R l back (fun e => gTail mul sub lk l zm e k) fun nn => gTail mul sub lk l nn 0 k
end Go.Vm
