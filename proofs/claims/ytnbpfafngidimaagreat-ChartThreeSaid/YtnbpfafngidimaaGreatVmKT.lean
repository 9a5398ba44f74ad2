/- What ChartThree's functions compute, in Lean; no conditions. -/
import Derived.Test.YtnbpfafngidimaaGreatVmKC
import Derived.Test.YtnbpfafngidimaaGreatVmKM
namespace Go.Vm
open Ieee
set_option linter.unusedVariables false
set_option linter.unusedSimpArgs false

/-! ### Three places -/
structure T3 where
  a1 : Nat
  a2 : Nat
  b1 : Nat
  b2 : Nat
  c1 : Nat
  c2 : Nat
def tv (t : T3) : Value := .agg ⟨[.complex .f64 t.a1 t.a2, .complex .f64 t.b1 t.b2, .complex .f64 t.c1 t.c2]⟩
def oneT {R : Type} (v : Value) (k : T3 → Option R) : Option R := match v with
  | .agg ⟨[.complex .f64 a1 a2, .complex .f64 b1 b2, .complex .f64 c1 c2]⟩ => k ⟨a1, a2, b1, b2, c1, c2⟩
  | _ => none
theorem oneT_some {R : Type} {v : Value} {k : T3 → Option R} {r : R} (h : oneT v k = some r) : ∃ f, v = tv f ∧ k f = some r := by
  unfold oneT at h
  split at h
  · exact ⟨_, rfl, h⟩
  · cases h

/-- an error's number, told from a list -/
def errIn {R : Type} : List Int → Int → (Int → Option R) → Option R
  | [], _, _ => none
  | c :: cs, e, ke => forceB (e == c) fun t => match t with
    | true => ke c
    | false => errIn cs e ke
theorem errIn_some {R : Type} : ∀ {l : List Int} {e : Int} {ke : Int → Option R} {r : R}, errIn l e ke = some r → ke e = some r
  | [], _, _, _, h => by cases h
  | c :: cs, e, ke, r, h => by
    unfold errIn at h
    rw [forceB_eq] at h
    cases hb : (e == c) with
    | true =>
      rw [hb] at h
      have : e = c := by simpa using hb
      rw [this]; exact h
    | false => rw [hb] at h; exact errIn_some h
theorem errIn_eq {R : Type} {l : List Int} {e : Int} (ke : Int → Option R) (h : l.contains e = true) : errIn l e ke = ke e := by
  induction l with
  | nil => simp at h
  | cons c cs ih =>
    unfold errIn
    rw [forceB_eq]
    cases hb : (e == c) with
    | true =>
      have : e = c := by simpa using hb
      subst this; rfl
    | false =>
      simp only
      refine ih ?_
      simp only [List.contains_cons, hb, Bool.false_or] at h
      exact h

def mErr {R : Type} (k : Value → Option R) (e : Int) : Option R := errIn [5, 180] e fun e => k (.tuple ⟨[mv 0 zm, .int .i64 e]⟩)
def mOk {R : Type} (k : Value → Option R) (m : Mp) : Option R := k (.tuple ⟨[mv 1 m, .int .i64 0]⟩)
def zErr {R : Type} (k : Value → Option R) (e : Int) : Option R := errIn [5, 6, 180] e fun e => k (.tuple ⟨[.complex .f64 0 0, .int .i64 e]⟩)
def zOk {R : Type} (k : Value → Option R) (x y : Nat) : Option R := k (.tuple ⟨[.complex .f64 x y, .int .i64 0]⟩)

abbrev KTB := ∀ R : Type, T3 → (Bool → Option R) → Option R
abbrev KTM := ∀ R : Type, T3 → (Int → Option R) → (Mp → Option R) → Option R
abbrev KTTM := ∀ R : Type, T3 → T3 → (Int → Option R) → (Mp → Option R) → Option R
abbrev KMZ := ∀ R : Type, Mp → Nat → Nat → (Int → Option R) → (Nat → Nat → Option R) → Option R
abbrev KMZC := ∀ R : Type, Mp → Nat → Nat → (Nat → Nat → Option R) → Option R

def sTB (g : KTB) : Sum := fun R args k => match args with
  | [v] => oneT v fun l => g R l fun t => forceB t fun t => k (.bool t)
  | _ => none
def sTM (g : KTM) : Sum := fun R args k => match args with
  | [v] => oneT v fun l => g R l (mErr k) (mOk k)
  | _ => none
def sTTM (g : KTTM) : Sum := fun R args k => match args with
  | [v, u] => oneT v fun l => oneT u fun n => g R l n (mErr k) (mOk k)
  | _ => none
def sMM2 (g : KMM) : Sum := fun R args k => match args with
  | [v] => oneM v fun i m => bif i == 1 then g R m (mErr k) (mOk k) else none
  | _ => none
def sMMM2 (g : KMMM) : Sum := fun R args k => match args with
  | [v, u] => oneM v fun i m => oneM u fun j n => bif i == 1 && j == 1 then g R m n (mErr k) (mOk k) else none
  | _ => none
def sMZ (g : KMZ) : Sum := fun R args k => match args with
  | [v, .complex .f64 a b] => oneM v fun i m => bif i == 1 then g R m a b (zErr k) (zOk k) else none
  | _ => none
def sMZC (g : KMZC) : Sum := fun R args k => match args with
  | [v, .complex .f64 a b] => oneM v fun i m => bif i == 1 then g R m a b fun x y => k (.complex .f64 x y) else none
  | _ => none

def unlikeB (lk : KCCB) : KTB := fun R l k => lk R l.a1 l.a2 l.b1 l.b2 fun t => forceB t fun t => match t with
  | true => k false
  | false => lk R l.b1 l.b2 l.c1 l.c2 fun t => forceB t fun t => match t with
    | true => k false
    | false => lk R l.c1 l.c2 l.a1 l.a2 fun t => forceB t fun t => k (!t)

def threeB (sub mul : KCCC) (neg : KCC) (told : KMM) : KTM := fun R l ke k =>
  sub R l.b1 l.b2 l.c1 l.c2 fun a1 a2 => sub R l.b1 l.b2 l.a1 l.a2 fun c1 c2 =>
  mul R l.a1 l.a2 a1 a2 fun x1 x2 => neg R x1 x2 fun b1 b2 => mul R l.c1 l.c2 c1 c2 fun y1 y2 => neg R y1 y2 fun d1 d2 =>
  told R ⟨a1, a2, b1, b2, c1, c2, d1, d2, 0⟩ ke k

def placesB {R : Type} (pl : KCB) (l : T3) (ke : Int → Option R) (k : Option R) : Option R :=
  pl R l.a1 l.a2 fun t => forceB t fun t => match t with
  | false => ke 5
  | true => pl R l.b1 l.b2 fun t => forceB t fun t => match t with
    | false => ke 5
    | true => pl R l.c1 l.c2 fun t => forceB t fun t => match t with
      | false => ke 5
      | true => k

def ThreeB (pl : KCB) (un : KTB) (th : KTM) (tu : KMM) (thn : KMMM) : KTTM := fun R l n ke k =>
  placesB pl l ke (placesB pl n ke (un R l fun t => forceB t fun t => match t with
  | false => ke 180
  | true => un R n fun t => forceB t fun t => match t with
    | false => ke 180
    | true => th R l (fun e => errIn [5, 180] e ke) fun m => th R n (fun e => errIn [5, 180] e ke) fun n => tu R n (fun e => errIn [5, 180] e ke) fun n =>
      thn R m n (fun e => errIn [5, 180] e ke) k))

def underB (mul add : KCCC) : KMZC := fun R m a b k => mul R m.c1 m.c2 a b fun x y => add R x y m.d1 m.d2 k
def moebB (un : KMZC) (no : KCB) (mul add div : KCCC) : KMZ := fun R m a b ke k => un R m a b fun s t => no R s t fun q => forceB q fun q => match q with
  | true => ke 6
  | false => mul R m.a1 m.a2 a b fun x y => add R x y m.b1 m.b2 fun u v => div R u v s t k
def atB (chk : KMI) (pl : KCB) (mo : KMZ) (fin : KCB) : KMZ := fun R m a b ke k => chk R m fun e => forceB (e != 0) fun t => match t with
  | true => ke e
  | false => pl R a b fun t => forceB t fun t => match t with
    | false => ke 5
    | true => mo R m a b (fun e => errIn [5, 6, 180] e ke) fun x y => fin R x y fun t => forceB t fun t => match t with
      | false => ke 6
      | true => k x y

/-! ### Three places of whole parts -/
structure I3 where
  a1 : Int
  a2 : Int
  b1 : Int
  b2 : Int
  c1 : Int
  c2 : Int
def iv (l : I3) : Value := .agg ⟨[.int .i16 l.a1, .int .i16 l.a2, .int .i16 l.b1, .int .i16 l.b2, .int .i16 l.c1, .int .i16 l.c2]⟩

def eq2 {R : Type} (a b c d : Int) (k : Bool → Option R) : Option R := forceB (a == c) fun t => match t with
  | false => k false
  | true => forceB (b == d) fun t => match t with
    | false => k false
    | true => k true
/-- are two of three alike? -/
def twoLike {R : Type} (l : I3) (k : Bool → Option R) : Option R := eq2 l.a1 l.a2 l.b1 l.b2 fun t => match t with
  | true => k true
  | false => eq2 l.b1 l.b2 l.c1 l.c2 fun t => match t with
    | true => k true
    | false => eq2 l.c1 l.c2 l.a1 l.a2 k

def threeTail {R : Type} (at_ : KMZ) (near : KCCFB) (m : Mp) (x y u v : Nat) (k : Bool → Option R) (next : Option R) : Option R :=
  at_ R m x y (fun e => errIn [5, 6, 180] e fun _ => k false) fun p q => near R p q u v 4472074429978902528 fun t => forceB t fun t => match t with
  | false => k false
  | true => next

def threeLaw (up : KGB) (of_ : KGC) (three : KTTM) (at_ : KMZ) (near : KCCFB) : ∀ R : Type, I3 → I3 → (Bool → Option R) → Option R := fun R f g k =>
  up R f.a1 f.a2 fun t => forceB t fun t => match t with
  | false => k true
  | true => up R g.a1 g.a2 fun t => forceB t fun t => match t with
    | false => k true
    | true => of_ R f.a1 f.a2 fun a1 a2 => of_ R g.a1 g.a2 fun x1 x2 =>
      up R f.b1 f.b2 fun t => forceB t fun t => match t with
      | false => k true
      | true => up R g.b1 g.b2 fun t => forceB t fun t => match t with
        | false => k true
        | true => of_ R f.b1 f.b2 fun b1 b2 => of_ R g.b1 g.b2 fun y1 y2 =>
          up R f.c1 f.c2 fun t => forceB t fun t => match t with
          | false => k true
          | true => up R g.c1 g.c2 fun t => forceB t fun t => match t with
            | false => k true
            | true => of_ R f.c1 f.c2 fun c1 c2 => of_ R g.c1 g.c2 fun z1 z2 =>
              three R ⟨a1, a2, b1, b2, c1, c2⟩ ⟨x1, x2, y1, y2, z1, z2⟩
                (fun e => errIn [5, 180] e fun e => twoLike f fun t => match t with
                  | true => k (e == 180)
                  | false => twoLike g fun t => match t with
                    | true => k (e == 180)
                    | false => k false)
                (fun m => twoLike f fun t => match t with
                  | true => k false
                  | false => twoLike g fun t => match t with
                    | true => k false
                    | false => threeTail at_ near m a1 a2 x1 x2 k (threeTail at_ near m b1 b2 y1 y2 k (threeTail at_ near m c1 c2 z1 z2 k (k true))))
end Go.Vm
