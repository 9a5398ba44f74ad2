/- What ChartGroup computes, in Lean; no conditions. -/
import Derived.Test.YtnbpfafngidimaaGreatVmKC
namespace Go.Vm
open Ieee
set_option linter.unusedVariables false
set_option linter.unusedSimpArgs false

def gRest {R : Type} (lk : KCCB) (n : Mp) (x y : Nat) (k : Bool → Option R) : Option R :=
  lk R n.a1 n.a2 x y fun t => forceB t fun t => match t with
  | false => k false
  | true => lk R n.d1 n.d2 x y fun t => forceB t fun t => match t with
    | false => k false
    | true => forceB (eqF n.b1 0) fun s => forceB (eqF n.b2 0) fun t => match s && t with
      | false => k false
      | true => forceB (eqF n.c1 0) fun s => forceB (eqF n.c2 0) fun t => k (s && t)

def gTail {R : Type} (mul sub : KCCC) (lk : KCCB) (l n : Mp) (e : Int) (k : Bool → Option R) : Option R :=
  mul R l.a1 l.a2 l.d1 l.d2 fun x1 x2 => mul R l.b1 l.b2 l.c1 l.c2 fun y1 y2 => sub R x1 x2 y1 y2 fun d1 d2 =>
  forceB (e == 0) fun t => match t with
  | false => k false
  | true => gRest lk n d1 d2 k

def groupB (small : KFrB) (fr : KFrM) (chk : KMI) (thn : KMMM) (alike : KMMB) (turned : KMM) (mul sub : KCCC) (lk : KCCB) : ∀ R : Type, Fr → Fr → Fr → (Bool → Option R) → Option R := fun R f g h k =>
  fr R f fun l => fr R g fun m => fr R h fun n =>
  small R f fun t => forceB t fun t => match t with
  | false => k true
  | true => small R g fun t => forceB t fun t => match t with
    | false => k true
    | true => small R h fun t => forceB t fun t => match t with
      | false => k true
      | true => chk R l fun e => forceB (e != 0) fun t => match t with
        | true => k true
        | false => chk R m fun e => forceB (e != 0) fun t => match t with
          | true => k true
          | false => chk R n fun e => forceB (e != 0) fun t => match t with
            | true => k true
            | false =>
              thn R l m (fun _ => thn R m n (fun _ => none) (fun _ => none)) fun lm =>
              thn R m n (fun _ => thn R lm n (fun _ => none) (fun _ => none)) fun mn =>
              thn R lm n (fun e3 => thn R l mn
                  (fun e4 => forceB (e3 != 0) fun t => match t with | true => k false | false => forceB (e4 != 0) fun t => match t with | true => k false | false => none)
                  (fun _ => forceB (e3 != 0) fun t => match t with | true => k false | false => none)) fun left =>
              thn R l mn (fun e4 => forceB (e4 != 0) fun t => match t with | true => k false | false => none) fun right =>
              alike R left right fun t => forceB t fun t => match t with
              | false => k false
              | true => turned R l (fun _ => none) fun back =>
                thn R l back (fun e => gTail mul sub lk l zm e k) fun nn => gTail mul sub lk l nn 0 k
end Go.Vm
