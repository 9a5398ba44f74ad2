/- What logarithms and angles of powers compute, joined; no conditions. Contracts that tell at once what is so, and go on if it is; no conditions. What ForceLift and its small functions compute, in Lean; no conditions. What PanelHalves and its small functions compute, in Lean; no conditions. -/
import Derived.Test.YtnbpfafngidimaaGreatVmKF
import Derived.Test.YtnbpfafngidimaaGreatVmP3
namespace Go.Vm
set_option linter.unusedVariables false

/-! ### What logarithms and angles compute -/
def logK : KFF := logB fiReal isInfPK frexpK oddK
def signK : KFB := signB fiReal
def minusK : KFB := minusB signK
def signedK : KFFF := signedB minusK absK
def angleK : KFFF := angleB absK isInfPK coreK minusK signedK
def powLogK : KCC := powLogB lengthK logK angleK
end Go.Vm
namespace Go.Vm
set_option linter.unusedVariables false

/-! ### Told at once: what is so is told ahead of the way, and the way goes on if it is -/
abbrev KC1 := ∀ R : Type, Nat → Nat → Option R → Option R
abbrev KF1 := ∀ R : Type, Nat → Option R → Option R
abbrev KFFF1 := ∀ R : Type, Nat → Nat → Nat → Option R → Option R
abbrev KE1 := ∀ R : Type, Int → Nat → Nat → Nat → Nat → Nat → Option R → Option R
abbrev KIF := ∀ R : Type, Int → (Nat → Option R) → Option R
abbrev KSd := ∀ R : Type, Int → Nat → Nat → Nat → Nat → Nat → Nat → Nat → Nat → Option R → Option R
def sCB1 (g : KC1) : Sum := fun R args k => match args with
  | [.complex .f64 a b] => g R a b (k (.bool true))
  | _ => none
def sFB1 (g : KF1) : Sum := fun R args k => match args with
  | [.float .f64 a] => g R a (k (.bool true))
  | _ => none
def sFFFB1 (g : KFFF1) : Sum := fun R args k => match args with
  | [.float .f64 a, .float .f64 b, .float .f64 c] => g R a b c (k (.bool true))
  | _ => none
def sEI1 (g : KE1) : Sum := fun R args k => match args with
  | [.agg ⟨[.int .u8 kind, .complex .f64 a1 a2, .complex .f64 s1 s2, .float .f64 p]⟩] => g R kind a1 a2 s1 s2 p (k (.int .i64 0))
  | _ => none
/-- a circle that may be -/
def sFit1 (g : KFFF1) : Sum := fun R args k => match args with
  | [.agg ⟨[.complex .f64 a b, .float .f64 c]⟩] => g R a b c (k (.bool true))
  | _ => none
/-- a Stream is nowhere, all else is told to be inside -/
def sSide (g : KSd) : Sum := fun R args k => match args with
  | [.agg ⟨[.int .u8 kind, .complex .f64 a1 a2, .complex .f64 s1 s2, .float .f64 p]⟩, .agg ⟨[.complex .f64 c1 c2, .float .f64 r]⟩] =>
    g R kind a1 a2 s1 s2 p c1 c2 r (bif kind == 1 then k (.int .i64 0) else k (.int .i64 (-1)))
  | _ => none
def sIF (g : KIF) : Sum := fun R args k => match args with
  | [.int .i64 n] => g R n fun x => k (.float .f64 x)
  | _ => none
/-- the rest by 1000 -/
def sMod (g : KFF) : Sum := fun R args k => match args with
  | [.float .f64 x, .float .f64 m] => bif Nat.beq m 4652007308841189376 then g R x fun y => k (.float .f64 y) else none
  | _ => none

/-! ### Read from what is there: three elements -/
abbrev KCl := ∀ R : Type, List Value → Nat → Nat → Nat → Bool → Option R → Option R
def sClean (g : KCl) : HSum := fun R args H k => match args with
  | [.agg ⟨[.slice (some ⟨b, o, none⟩) n c]⟩, .agg ⟨[.complex .f64 c1 c2, .float .f64 r]⟩, .bool t] =>
    bif Nat.beq o 0 && Nat.beq n 3 then
      match look b H.objs with
      | some (.cells cs sz) => g R cs c1 c2 r t (k (.int .i64 0))
      | _ => none
    else none
  | _ => none
def gtab : List (Nat × HSum) → FuncId → Option HSum
  | [], _ => none
  | (n, s) :: r, f => bif Nat.beq n f then some s else gtab r f
def cxg (fi : Fi) (P : Program) (l es : List (Nat × Sum)) (gl : List (Nat × HSum)) : Cx := { cxf fi P l es with gs := gtab gl }
end Go.Vm
namespace Go.Vm
set_option linter.unusedVariables false

/-! ### ForceLift -/
abbrev KLift := ∀ R : Type, Int → Int → Int → Int → Int → Int → (Bool → Option R) → Option R
def liftB (wh : KIF) (ab md : KFF) (ei : KE1) (fit : KFFF1) (cj ng tm : KCC) (sc : KCFC) (cl : KCl) (sd : KSd) (sub add mul : KCCC) (fC : KC1) (fF : KF1) (nr : KFFF1) : KLift := fun R s t turn x y radius k =>
  wh R x fun w0_0 =>
  wh R y fun w1_0 =>
  wh R radius fun w2_0 =>
  ab R w2_0 fun w3_0 =>
  md R w3_0 fun w4_0 =>
  bindF (fbF .add 4607182418800017408 w4_0) fun w6_0 =>
  wh R s fun w7_0 =>
  wh R t fun w8_0 =>
  wh R turn fun w9_0 =>
  ei R 1 0 0 w7_0 w8_0 0 <|
  fit R w0_0 w1_0 w6_0 <|
  cj R w7_0 w8_0 fun w10_0 w10_1 =>
  bindF (fbF .mul w6_0 w6_0) fun w12_0 =>
  sc R w10_0 w10_1 w12_0 fun w13_0 w13_1 =>
  ei R 1 0 0 w7_0 w8_0 0 <|
  ei R 3 w0_0 w1_0 w13_0 w13_1 4607182418800017408 <|
  forceN (Op.negFloat .f64 w9_0) fun w14_0 =>
  ei R 1 0 0 w7_0 w8_0 0 <|
  ei R 3 w0_0 w1_0 w13_0 w13_1 4607182418800017408 <|
  ei R 2 w0_0 w1_0 0 w14_0 0 <|
  bindF (fbF .mul 4611686018427387904 w6_0) fun w16_0 =>
  cl R ([.int .u8 1, .complex .f64 0 0, .complex .f64 w7_0 w8_0, .float .f64 0, .int .u8 3, .complex .f64 w0_0 w1_0, .complex .f64 w13_0 w13_1, .float .f64 4607182418800017408, .int .u8 2, .complex .f64 w0_0 w1_0, .complex .f64 0 w14_0, .float .f64 0]) w0_0 w1_0 w16_0 true <|
  ei R 1 0 0 w7_0 w8_0 0 <|
  ei R 3 w0_0 w1_0 w13_0 w13_1 4607182418800017408 <|
  sd R 3 w0_0 w1_0 w13_0 w13_1 4607182418800017408 w0_0 w1_0 w16_0 <|
  ei R 1 0 0 w7_0 w8_0 0 <|
  sub R w0_0 w1_0 0 0 fun w17_0 w17_1 =>
  ei R 3 w0_0 w1_0 w13_0 w13_1 4607182418800017408 <|
  sd R 3 w0_0 w1_0 w13_0 w13_1 4607182418800017408 w0_0 w1_0 w16_0 <|
  ei R 2 w0_0 w1_0 0 w14_0 0 <|
  sc R 0 w14_0 4594902181429758083 fun w18_0 w18_1 =>
  sd R 2 w0_0 w1_0 0 w14_0 0 w0_0 w1_0 w16_0 <|
  ng R w13_0 w13_1 fun w19_0 w19_1 =>
  mul R w19_0 w19_1 0 0 fun w20_0 w20_1 =>
  sc R w20_0 w20_1 4607182418800017408 fun w21_0 w21_1 =>
  ei R 2 w0_0 w1_0 0 w14_0 0 <|
  sc R 0 w14_0 4594902181429758083 fun w22_0 w22_1 =>
  sd R 2 w0_0 w1_0 0 w14_0 0 w0_0 w1_0 w16_0 <|
  ei R 1 0 0 w7_0 w8_0 0 <|
  sub R w0_0 w1_0 0 0 fun w23_0 w23_1 =>
  ei R 3 w0_0 w1_0 w13_0 w13_1 4607182418800017408 <|
  sd R 3 w0_0 w1_0 w13_0 w13_1 4607182418800017408 w0_0 w1_0 w16_0 <|
  ei R 2 w0_0 w1_0 0 w14_0 0 <|
  sc R 0 w14_0 4594902181429758083 fun w24_0 w24_1 =>
  sd R 2 w0_0 w1_0 0 w14_0 0 w0_0 w1_0 w16_0 <|
  sc R 0 w14_0 4594902181429758083 fun w25_0 w25_1 =>
  mul R w25_0 w25_1 w7_0 w8_0 fun w26_0 w26_1 =>
  add R w21_0 w21_1 w26_0 w26_1 fun w27_0 w27_1 =>
  sc R w27_0 w27_1 4611686018427387904 fun w28_0 w28_1 =>
  fC R w28_0 w28_1 <|
  cl R ([.int .u8 1, .complex .f64 0 0, .complex .f64 w7_0 w8_0, .float .f64 0, .int .u8 3, .complex .f64 w0_0 w1_0, .complex .f64 w13_0 w13_1, .float .f64 4607182418800017408, .int .u8 2, .complex .f64 w0_0 w1_0, .complex .f64 0 w14_0, .float .f64 0]) w0_0 w1_0 w16_0 false <|
  sd R 1 0 0 w7_0 w8_0 0 w0_0 w1_0 w16_0 <|
  sd R 3 w0_0 w1_0 w13_0 w13_1 4607182418800017408 w0_0 w1_0 w16_0 <|
  sd R 2 w0_0 w1_0 0 w14_0 0 w0_0 w1_0 w16_0 <|
  sc R 0 w14_0 4594902181429758083 fun w29_0 w29_1 =>
  mul R w29_0 w29_1 w29_0 w29_1 fun w30_0 w30_1 =>
  sub R w0_0 w1_0 w0_0 w1_0 fun w31_0 w31_1 =>
  sub R w0_0 w1_0 0 0 fun w32_0 w32_1 =>
  mul R w31_0 w31_1 0 0 fun w33_0 w33_1 =>
  sub R w0_0 w1_0 0 0 fun w34_0 w34_1 =>
  sc R w7_0 w8_0 4607182418800017408 fun w35_0 w35_1 =>
  add R w33_0 w33_1 w35_0 w35_1 fun w36_0 w36_1 =>
  ng R w13_0 w13_1 fun w37_0 w37_1 =>
  mul R w37_0 w37_1 w36_0 w36_1 fun w38_0 w38_1 =>
  sc R w38_0 w38_1 4607182418800017408 fun w39_0 w39_1 =>
  sc R w39_0 w39_1 4611686018427387904 fun w40_0 w40_1 =>
  add R w30_0 w30_1 w40_0 w40_1 fun w41_0 w41_1 =>
  sub R w0_0 w1_0 w0_0 w1_0 fun w42_0 w42_1 =>
  sc R 0 w14_0 4594902181429758083 fun w43_0 w43_1 =>
  sub R w0_0 w1_0 0 0 fun w44_0 w44_1 =>
  mul R w43_0 w43_1 w42_0 w42_1 fun w45_0 w45_1 =>
  mul R w45_0 w45_1 w7_0 w8_0 fun w46_0 w46_1 =>
  sc R w46_0 w46_1 4611686018427387904 fun w47_0 w47_1 =>
  add R w41_0 w41_1 w47_0 w47_1 fun w48_0 w48_1 =>
  sc R w28_0 w28_1 13837628693406821656 fun w49_0 w49_1 =>
  cj R w49_0 w49_1 fun w50_0 w50_1 =>
  bindF (fbF .mul 4614256656552045848 w48_1) fun w52_0 =>
  fC R w50_0 w50_1 <|
  fF R w52_0 <|
  cj R w7_0 w8_0 fun w53_0 w53_1 =>
  tm R w53_0 w53_1 fun w54_0 w54_1 =>
  forceN (Op.negFloat .f64 w9_0) fun w55_0 =>
  sc R w54_0 w54_1 w55_0 fun w56_0 w56_1 =>
  ab R w56_0 fun w57_0 =>
  ab R w56_1 fun w58_0 =>
  bindF (fbF .add w57_0 w58_0) fun w60_0 =>
  ab R w7_0 fun w61_0 =>
  ab R w8_0 fun w62_0 =>
  bindF (fbF .add w61_0 w62_0) fun w64_0 =>
  ab R w9_0 fun w65_0 =>
  bindF (fbF .add w64_0 w65_0) fun w67_0 =>
  bindF (fbF .mul w60_0 4427038433705197568) fun w69_0 =>
  nr R w50_0 w56_0 w69_0 <|
  bindF (fbF .mul w60_0 4427038433705197568) fun w71_0 =>
  nr R w50_1 w56_1 w71_0 <|
  ab R w52_0 fun w72_0 =>
  bindF (fbF .mul w6_0 w6_0) fun w74_0 =>
  bindF (fbF .mul w74_0 w67_0) fun w76_0 =>
  bindF (fbF .mul w76_0 w67_0) fun w78_0 =>
  bindF (fbF .mul w78_0 4427038433705197568) fun w80_0 =>
  forceB (leF w72_0 w80_0) fun t => k t

def conjK : KCC := fun R a b k => forceN (Op.negFloat .f64 b) fun y => k a y
def timesK : KCC := fun R a b k => forceN (Op.negFloat .f64 b) fun x => k x a
def wholeGB (fi : Fi) : KIF := fun R n k => fi R (n.tmod 1001) fun m => forceN (floatOfInt .f64 m) k
def wholeG : KIF := wholeGB fiReal
abbrev KFFFB := ∀ R : Type, Nat → Nat → Nat → (Bool → Option R) → Option R
def sFitB (g : KFFFB) : Sum := fun R args k => match args with
  | [.agg ⟨[.complex .f64 a b, .float .f64 c]⟩] => g R a b c fun t => k (.bool t)
  | _ => none
def fitB (pl : KCFB) : KFFFB := fun R a b r k => pl R a b 4787326403894837248 fun t => forceB t fun t => match t with
  | false => k false
  | true => forceB (geF r 4427038433705197568) fun t => match t with
    | false => k false
    | true => forceB (leF r 4787326403894837248) fun t => k t
def sFFFB (g : KFFFB) : Sum := fun R args k => match args with
  | [.float .f64 a, .float .f64 b, .float .f64 c] => g R a b c fun t => k (.bool t)
  | _ => none
def nearFB (ab : KFF) : KFFFB := fun R a b m k => bindF (fbF .sub a b) fun d => ab R d fun e => forceB (leF e m) fun t => k t
/-- where an element lies -/
def sideB (sub : KCCC) (ln : KCF) : ∀ R : Type, Int → Nat → Nat → Nat → Nat → Nat → (Int → Option R) → Option R := fun R kind a b c1 c2 r k =>
  sub R a b c1 c2 fun x y => ln R x y fun l => bif kind == 1 then k 0 else forceB (ltF l r) fun t => match t with | true => k (-1) | false => k 1
/-- clean: a Stream, a Doublet, a Source -/
def cleanB (ei : KE1) (pl : KCFB) (sub : KCCC) (ln : KCF) : ∀ R : Type, Nat → Nat → Nat → Nat → Nat → Nat → Nat → Nat → Nat → Nat → Nat → Nat → Nat → Nat → Nat → Nat → Nat → Nat → (Int → Option R) → Option R :=
  fun R b1 b2 t1 t2 p1 a1 a2 s1 s2 p2 d1 d2 r1 r2 p3 c1 c2 r k =>
  ei R 1 b1 b2 t1 t2 p1 <| ei R 3 a1 a2 s1 s2 p2 <| ei R 2 d1 d2 r1 r2 p3 <| pl R c1 c2 4787326403894837248 fun t => forceB t fun t => match t with
  | false => k 5
  | true => forceB (geF r 4427038433705197568) fun t => match t with
    | false => k 5
    | true => forceB (leF r 4787326403894837248) fun t => match t with
      | false => k 5
      | true => bindF (fbF .mul r 4517110426252607488) fun h => sub R b1 b2 c1 c2 fun x y => ln R x y fun _ => sub R a1 a2 c1 c2 fun x y => ln R x y fun l =>
        bindF (fbF .add r h) fun u => forceB (leF l u) fun t => match t with
        | true => bindF (fbF .sub r h) fun v => forceB (geF l v) fun t => match t with
          | true => k 210
          | false => sub R d1 d2 c1 c2 fun x y => ln R x y fun l => bindF (fbF .add r h) fun u => forceB (leF l u) fun t => match t with
            | true => bindF (fbF .sub r h) fun v => forceB (geF l v) fun t => match t with | true => k 210 | false => k 0
            | false => k 0
        | false => sub R d1 d2 c1 c2 fun x y => ln R x y fun l => bindF (fbF .add r h) fun u => forceB (leF l u) fun t => match t with
            | true => bindF (fbF .sub r h) fun v => forceB (geF l v) fun t => match t with | true => k 210 | false => k 0
            | false => k 0
/-- the rest by 1000 of what is less -/
def modE (n2 : KFFF1) (n1 : KF1) : KFF := fun R x k => n2 R x 0 0 <| n1 R x <| n1 R 4652007308841189376 <| forceB (ltF x 0) fun t => match t with
  | true => forceN (Op.negFloat .f64 x) fun r => forceB (geF r 4652007308841189376) fun t => match t with
    | true => bif Nat.beq r 4652007308841189376 then none else none
    | false => forceB (ltF x 0) fun t => match t with | true => forceN (Op.negFloat .f64 r) fun r => k r | false => k r
  | false => forceB (geF x 4652007308841189376) fun t => match t with
    | true => bif Nat.beq x 4652007308841189376 then none else none
    | false => forceB (ltF x 0) fun t => match t with | true => forceN (Op.negFloat .f64 x) fun r => k r | false => k x
def n2K : KFFF1 := fun R a _ _ X => isInfK R a fun t => match t with | false => X | true => none
def n1K : KF1 := fun R a X => isNanK R a fun t => match t with | false => X | true => none
def modK : KFF := fun R x k => bif Nat.beq x 4652007308841189376 then k 0 else modE n2K n1K R x k

/-! ### Told at once -/
def yesI {R : Type} (X : Option R) : Int → Option R := fun e => match decide (e = 0) with | true => X | false => none
def yesB {R : Type} (X : Option R) : Bool → Option R := fun t => match t with | true => X | false => none
def eiT (ck : KEI) : KE1 := fun R kind a1 a2 s1 s2 p X => ck R kind a1 a2 s1 s2 p (yesI X)
def fitT (pl : KCFB) : KFFF1 := fun R a b r X => fitB pl R a b r (yesB X)
def nrT (ab : KFF) : KFFF1 := fun R a b r X => nearFB ab R a b r (yesB X)
def fCT (g : KCB) : KC1 := fun R a b X => g R a b (yesB X)
def fFT (g : KFB) : KF1 := fun R a X => g R a (yesB X)
def sdT (sub : KCCC) (ln : KCF) : KSd := fun R kind a1 a2 s1 s2 p c1 c2 r X => bif kind == 1 || kind == 2 || kind == 3 then
  sideB sub ln R kind a1 a2 c1 c2 r fun i => bif kind == 1 then X else (match decide (i = -1) with | true => X | false => none) else none
def clT (ei : KE1) (pl : KCFB) (sub : KCCC) (ln : KCF) : KCl := fun R cs c1 c2 r t X => match cs with
  | [.int .u8 k1, .complex .f64 b1 b2, .complex .f64 t1 t2, .float .f64 p1, .int .u8 k2, .complex .f64 a1 a2, .complex .f64 s1 s2, .float .f64 p2, .int .u8 k3, .complex .f64 d1 d2, .complex .f64 r1 r2, .float .f64 p3] =>
    bif k1 == 1 && k2 == 3 && k3 == 2 then cleanB ei pl sub ln R b1 b2 t1 t2 p1 a1 a2 s1 s2 p2 d1 d2 r1 r2 p3 c1 c2 r (yesI X) else none
  | _ => none
end Go.Vm
namespace Go.Vm
open Ieee
set_option linter.unusedVariables false

/-! ### PanelHalves -/
abbrev KCF1 := ∀ R : Type, Nat → Nat → Nat → Option R → Option R
def sCFB1 (g : KCF1) : Sum := fun R args k => match args with
  | [.complex .f64 a b, .float .f64 m] => g R a b m (k (.bool true))
  | _ => none
abbrev KFF1 := ∀ R : Type, Nat → Nat → Option R → Option R
def sFFB1 (g : KFF1) : Sum := fun R args k => match args with
  | [.float .f64 a, .float .f64 m] => g R a m (k (.bool true))
  | _ => none
abbrev KUn := ∀ R : Type, Nat → Nat → (Nat → Nat → Bool → Option R) → Option R
def sUn (g : KUn) : Sum := fun R args k => match args with
  | [.complex .f64 a b] => g R a b fun x y t => k (.tuple ⟨[.complex .f64 x y, .bool t]⟩)
  | _ => none
def sUnit (g : KCC) : Sum := fun R args k => match args with
  | [.complex .f64 a b] => g R a b fun x y => k (.tuple ⟨[.complex .f64 x y, .bool true]⟩)
  | _ => none
def unitB (fC : KC1) (gr : KCF) (scd : KCCI) (sq : KCF) (rt : KFF) : KUn := fun R a b k => fC R a b <| gr R a b fun g => forceB (eqF g 0) fun t => match t with
  | true => k 0 0 false
  | false => scd R a b fun x y _ => sq R x y fun s => rt R s fun l => bindF (fbF .quo x l) fun u => bindF (fbF .quo y l) fun v => k u v true
abbrev KOne := ∀ R : Type, Nat → Nat → Nat → Nat → Nat → Nat → Nat → (Nat → Nat → Option R) → Option R
abbrev KOneE := ∀ R : Type, Nat → Nat → Nat → Nat → Nat → Nat → Nat → (Int → Option R) → (Nat → Nat → Option R) → Option R
def sOneE (g : KOneE) : Sum := fun R args k => match args with
  | [.agg ⟨[.complex .f64 f1 f2, .complex .f64 t1 t2, .float .f64 s]⟩, .complex .f64 z1 z2] => g R f1 f2 t1 t2 s z1 z2 (fun e => k (.tuple ⟨[.complex .f64 0 0, .int .i64 e]⟩)) fun x y => k (.tuple ⟨[.complex .f64 x y, .int .i64 0]⟩)
  | _ => none
def sOne (g : KOne) : Sum := fun R args k => match args with
  | [.agg ⟨[.complex .f64 f1 f2, .complex .f64 t1 t2, .float .f64 s]⟩, .complex .f64 z1 z2] => g R f1 f2 t1 t2 s z1 z2 fun x y => k (.tuple ⟨[.complex .f64 x y, .int .i64 0]⟩)
  | _ => none
def oneB (wi : KCF1) (wf : KFF1) (sub mul : KCCC) (ln : KCF) (un : KCC) (cj lg : KCC) (sc : KCFC) (fC : KC1) : KOneE := fun R f1 f2 t1 t2 s z1 z2 er ok =>
  wi R f1 f2 4787326403894837248 <| wi R t1 t2 4787326403894837248 <| wf R s 4787326403894837248 <| sub R t1 t2 f1 f2 fun w1 w2 => ln R w1 w2 fun l => forceB (geF l 4427038433705197568) fun t => match t with
  | false => er 250
  | true => un R w1 w2 fun u1 u2 => bindF (fbF .quo f1 4611686018427387904) fun x => bindF (fbF .quo t1 4611686018427387904) fun y => bindF (fbF .add x y) fun _ =>
      bindF (fbF .quo f2 4611686018427387904) fun x => bindF (fbF .quo t2 4611686018427387904) fun y => bindF (fbF .add x y) fun _ =>
      wi R z1 z2 4787326403894837248 <| cj R u1 u2 fun c1 c2 => sub R z1 z2 f1 f2 fun s1 s2 => mul R c1 c2 s1 s2 fun d1 d2 => bindF (fbF .add d2 0) fun y => lg R d1 y fun a1 a2 => bindF (fbF .sub d1 l) fun x => lg R x y fun b1 b2 =>
      sub R a1 a2 b1 b2 fun v1 v2 => mul R c1 c2 v1 v2 fun m1 m2 => sc R m1 m2 4594902181429758083 fun r1 r2 => fC R r1 r2 <| ok r1 r2
def whole17B (fi : Fi) : KIF := fun R n k => fi R (n.tmod 17) fun m => forceN (floatOfInt .f64 m) k
def whole17 : KIF := whole17B fiReal
def halvesR (hy : KFFF) (ab : KFF) (one : KOne) {R : Type} (f1 f2 t1 t2 z1 z2 : Nat) (k : Bool → Option R) : Option R :=
  bindF (fbF .sub t1 f1) fun dx => bindF (fbF .sub t2 f2) fun dy => bindF (fbF .sub z2 f2) fun y => bindF (fbF .mul dx y) fun p => bindF (fbF .sub z1 f1) fun x => bindF (fbF .mul dy x) fun q => bindF (fbF .sub p q) fun c =>
  ab R c fun a => hy R dx dy fun h => bindF (fbF .quo a h) fun off => forceB (ltF off 4571153621781053440) fun t => match t with
  | true => k true
  | false => bindF (fbF .quo f1 4611686018427387904) fun x => bindF (fbF .quo t1 4611686018427387904) fun y => bindF (fbF .add x y) fun m1 =>
      bindF (fbF .quo f2 4611686018427387904) fun x => bindF (fbF .quo t2 4611686018427387904) fun y => bindF (fbF .add x y) fun m2 =>
      one R f1 f2 t1 t2 0 z1 z2 fun v1 v2 => one R f1 f2 m1 m2 0 z1 z2 fun p1 p2 => one R m1 m2 t1 t2 0 z1 z2 fun q1 q2 => bindF (fbF .add p1 q1) fun s1 => bindF (fbF .add p2 q2) fun s2 =>
      bindF (fbF .sub v1 s1) fun e => ab R e fun e => forceB (leF e 4427038433705197568) fun t => match t with
      | false => k false
      | true => bindF (fbF .sub v2 s2) fun e => ab R e fun e => forceB (leF e 4427038433705197568) fun t => match t with
        | true => k true
        | false => k false
abbrev KHalves := ∀ R : Type, Int → Int → Int → Int → Int → Int → (Bool → Option R) → Option R
def halvesB (wh : KIF) (hy : KFFF) (ab : KFF) (one : KOne) : KHalves := fun R a b c d x y k => wh R a fun f1 => wh R b fun f2 => wh R c fun t1 => wh R d fun t2 => wh R x fun z1 => wh R y fun z2 =>
  forceB (eqF f1 t1) fun t => match t with
  | true => forceB (eqF f2 t2) fun t => match t with | true => k true | false => halvesR hy ab one f1 f2 t1 t2 z1 z2 k
  | false => forceB (eqF f2 t2) fun t => match t with | true => halvesR hy ab one f1 f2 t1 t2 z1 z2 k | false => halvesR hy ab one f1 f2 t1 t2 z1 z2 k
/-- the length, by the machine's own way -/
def hypC {R : Type} (big small : Nat) (k : Nat → Option R) : Option R := bindF (fbF .quo small big) fun r => bindF (fbF .mul r r) fun r => bindF (fbF .add r 4607182418800017408) fun r => bindF (double.sqrt r) fun r => bindF (fbF .mul r big) k
def hypK : KFFF := fun R a b k =>
  bif Nat.blt (a % 2 ^ 63) 9218868437227405312 && Nat.blt (b % 2 ^ 63) 9218868437227405312 then
    bif Nat.beq (a % 2 ^ 63) 0 && Nat.beq (b % 2 ^ 63) 0 then k 0
    else bif ltF (a % 2 ^ 63) (b % 2 ^ 63) then hypC (b % 2 ^ 63) (a % 2 ^ 63) k else hypC (a % 2 ^ 63) (b % 2 ^ 63) k
  else none
def cfT (g : KCFB) : KCF1 := fun R a b m X => g R a b m (yesB X)
def ffT (g : KFFB) : KFF1 := fun R a m X => g R a m (yesB X)
def unT (g : KUn) : KCC := fun R a b k => g R a b fun x y t => match t with | true => k x y | false => none
def oneX (g : KOneE) : KOne := fun R f1 f2 t1 t2 s z1 z2 k => g R f1 f2 t1 t2 s z1 z2 (fun _ => none) k
end Go.Vm
