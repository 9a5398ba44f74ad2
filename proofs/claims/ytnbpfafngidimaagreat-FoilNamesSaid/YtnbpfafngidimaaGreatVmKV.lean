/- What exponentials, turns and powers compute, and the frame of an element's values, in Lean; no conditions. What ElementMoved and Moved compute, in Lean; no conditions. What Potential, Speed and Slope compute, by kind and power, in Lean; no conditions. -/
import Derived.Test.YtnbpfafngidimaaGreatVmKF
import Derived.Test.YtnbpfafngidimaaGreatVmP3
import Derived.Test.YtnbpfafngidimaaGreatVmKH
import Derived.Test.YtnbpfafngidimaaGreatVmP1
namespace Go.Vm
set_option linter.unusedVariables false

/-! ### Exponentials and turns -/
def risingR {R : Type} (r : Nat) : List Nat → Nat → (Nat → Option R) → Option R
  | [], t, k => k t
  | d :: ds, t, k => bindF (fbF .mul r t) fun a => bindF (fbF .quo a d) fun b => bindF (fbF .add 4607182418800017408 b) fun t => risingR r ds t k
def risingL : List Nat := [4623507967449235456, 4622945017495814144, 4622382067542392832, 4621819117588971520, 4621256167635550208, 4620693217682128896, 4619567317775286272, 4618441417868443648, 4617315517961601024, 4616189618054758400, 4613937818241073152, 4611686018427387904, 4607182418800017408]
def risingK : KFF := fun R r k => risingR r risingL 4607182418800017408 k
def sRising (g : KFF) : Sum := fun R args k => match args with
  | [.float .f64 r, .int .i64 j] => bif j == 1 then g R r fun x => k (.float .f64 x) else none
  | _ => none
def expB (fi : Fi) (wh ris : KFF) (scal : KFIF) : KFF := fun R x k => forceB (neF x x) fun t => match t with
  | true => k x
  | false => forceB (gtF x 4649454594685214392) fun t => match t with
    | true => k 9218868437227405312
    | false => forceB (ltF x 13873137573428325253) fun t => match t with
      | true => k 0
      | false => bindF (fbF .mul x 4609176140021203710) fun y => wh R y fun n => bindF (fbF .mul n 4604418534311723008) fun a => bindF (fbF .sub x a) fun b => bindF (fbF .mul n 4461442080421002358) fun c =>
          bindF (fbF .sub b c) fun r => ris R r fun t => (floatToIntVal .f64 n .i64).bind fun i => fi R i fun i => scal R t i k
abbrev KFFI2 := ∀ R : Type, Nat → (Nat → Int → Option R) → Option R
def lessK : KFFF := fun R x m k => bindF (fbF .mul m 4609753056924401664) fun a => bindF (fbF .sub x a) fun x => bindF (fbF .mul m 4454258360616747008) fun a => bindF (fbF .sub x a) fun x =>
  bindF (fbF .mul m 4297306550709518336) fun a => bindF (fbF .sub x a) k
def sLess (g : KFFF) : Sum := fun R args k => match args with
  | [.float .f64 x, .float .f64 m, .float .f64 t] => bif Nat.beq t 4607182418800017408 then g R x m fun x => k (.float .f64 x) else none
  | _ => none
def quarterB (fi : Fi) (fit : KFB) (wh : KFF) (ls : KFFF) : KFFI2 := fun R x k => fit R x fun t => forceB t fun t => match t with
  | false => none
  | true => bindF (fbF .mul x 4603909380684499075) fun y => wh R y fun m => forceB (eqF m 0) fun t => match t with
    | true => k x 0
    | false => ls R x m fun r => (floatToIntVal .f64 m .i64).bind fun n => fi R n fun n => k r (andI n 3)
def turnB (q : KFFI2) (st : KFF2) : KFF2 := fun R x k => q R x fun y n => st R y fun s c => forceB (n == 3) fun t => match t with
  | true => forceN (Op.negFloat .f64 s) fun s1 => forceN (Op.negFloat .f64 c) fun c1 => forceN (Op.negFloat .f64 s1) fun s2 => k c1 s2
  | false => forceB (n == 1) fun t => match t with
    | true => forceN (Op.negFloat .f64 s) fun s2 => k c s2
    | false => forceB (n == 2) fun t => match t with
      | true => forceN (Op.negFloat .f64 s) fun s1 => forceN (Op.negFloat .f64 c) fun c1 => k s1 c1
      | false => k s c
def cexpB (ex : KFF) (tn : KFF2) : KCC := fun R a b k => ex R a fun e => forceB (eqF b 0) fun t => match t with
  | true => k e b
  | false => tn R b fun s c => bindF (fbF .mul e c) fun x => bindF (fbF .mul e s) fun y => k x y
def realB (lg : KCC) (scl : KCFC) (ex : KCC) : KCFC := fun R a b p k => forceB (eqF p 0) fun t => match t with
  | true => k 4607182418800017408 0
  | false => lg R a b fun x y => scl R x y p fun u v => ex R u v k

/-! ### Whole powers -/
abbrev KW := ∀ R : Type, Nat → Nat → Int → (Nat → Nat → Option R) → Option R
def sKW (g : KW) : Sum := fun R args k => match args with
  | [.complex .f64 a b, .int .i64 n] => g R a b n fun x y => k (.complex .f64 x y)
  | _ => none
/-- the bits below the first: the steps of a power -/
def wsteps {R : Type} (mul : KCCC) (a b : Nat) : List Bool → Nat → Nat → (Nat → Nat → Option R) → Option R
  | [], x, y, k => k x y
  | t :: ts, x, y, k => mul R x y x y fun x y => match t with
    | true => mul R x y a b fun x y => wsteps mul a b ts x y k
    | false => wsteps mul a b ts x y k
def wbits : Nat → List Bool
  | 2 => [false] | 3 => [true] | 4 => [false, false] | 5 => [false, true] | 6 => [true, false] | 7 => [true, true] | 8 => [false, false, false] | 9 => [false, false, true] | 10 => [false, true, false] | _ => []

/-! ### What an element's value is, by its kind -/
abbrev KLeaf := ∀ R : Type, Nat → Nat → Nat → Nat → Nat → Nat → (Nat → Nat → Option R) → Option R
/-- the frame: er tells an error, pre is asked ahead of the way, leaf is reached with the way from the element -/
def valP (chk : KEI) (re no : KCB) (sub : KCCC) (kind : Int) (p : Nat) {R : Type} (pre : Option R → Option R) (a1 a2 s1 s2 z1 z2 : Nat) (er : Int → Option R) (at0 leaf : Nat → Nat → Option R) : Option R :=
  chk R kind a1 a2 s1 s2 p fun e => match decide (e = 0) with
    | false => er e
    | true => re R z1 z2 fun t => forceB t fun t => match t with
      | false => er 5
      | true => pre (sub R z1 z2 a1 a2 fun d1 d2 => no R d1 d2 fun t => forceB t fun t => match t with
        | true => at0 d1 d2
        | false => leaf d1 d2)
/-- of a source -/
def valO (chk : KEI) (re no : KCB) (sub : KCCC) (scl : KCFC) {R : Type} (a1 a2 s1 s2 p z1 z2 : Nat) (er : Int → Option R) (leaf : Nat → Nat → Nat → Nat → Option R) : Option R :=
  chk R 2 a1 a2 s1 s2 p fun e => match decide (e = 0) with
    | false => er e
    | true => re R z1 z2 fun t => forceB t fun t => match t with
      | false => er 5
      | true => scl R s1 s2 4594902181429758083 fun c1 c2 => sub R z1 z2 a1 a2 fun d1 d2 => no R d1 d2 fun t => forceB t fun t => match t with
        | true => er 6
        | false => leaf c1 c2 d1 d2
/-- whole, told at once -/
def sWhY (g : ∀ R : Type, Nat → Option R → Option R) : Sum := fun R args k => match args with
  | [.float .f64 p] => g R p (k (.bool true))
  | _ => none
/-- not whole, told at once -/
def sWhN (g : ∀ R : Type, Nat → Option R → Option R) : Sum := fun R args k => match args with
  | [.float .f64 p] => g R p (k (.bool false))
  | _ => none
def leafD (div : KCCC) (scl : KCFC) (W : KW) (times : Option Nat) (n : Int) {R : Type} (s1 s2 d1 d2 : Nat) (k : Nat → Nat → Option R) : Option R :=
  match times with
  | none => W R d1 d2 n fun w1 w2 => div R s1 s2 w1 w2 k
  | some f => scl R s1 s2 f fun s1 s2 => W R d1 d2 n fun w1 w2 => div R s1 s2 w1 w2 k
def leafC (mul : KCCC) (scl : KCFC) (W : KW) (times : Option Nat) (n : Int) {R : Type} (s1 s2 d1 d2 : Nat) (k : Nat → Nat → Option R) : Option R :=
  match times with
  | none => W R d1 d2 n fun w1 w2 => mul R s1 s2 w1 w2 k
  | some f => scl R s1 s2 f fun s1 s2 => W R d1 d2 n fun w1 w2 => mul R s1 s2 w1 w2 k
def leafB0 (mul : KCCC) (real : KCFC) {R : Type} (p s1 s2 d1 d2 : Nat) (k : Nat → Nat → Option R) : Option R := real R d1 d2 p fun w1 w2 => mul R s1 s2 w1 w2 k
def leafB1 (mul : KCCC) (scl real : KCFC) {R : Type} (p s1 s2 d1 d2 : Nat) (k : Nat → Nat → Option R) : Option R :=
  scl R s1 s2 p fun s1 s2 => bindF (fbF .sub p 4607182418800017408) fun q => real R d1 d2 q fun w1 w2 => mul R s1 s2 w1 w2 k
def leafB2 (mul : KCCC) (scl real : KCFC) {R : Type} (p s1 s2 d1 d2 : Nat) (k : Nat → Nat → Option R) : Option R :=
  bindF (fbF .sub p 4607182418800017408) fun q => bindF (fbF .mul p q) fun f => scl R s1 s2 f fun s1 s2 => bindF (fbF .sub p 4611686018427387904) fun q => real R d1 d2 q fun w1 w2 => mul R s1 s2 w1 w2 k
/-- a broken power at its own place -/
def midB {R : Type} (n p : Nat) (er : Int → Option R) : Option R := forceB (ltF p n) fun t => match t with | true => er 6 | false => er 0
end Go.Vm
namespace Go.Vm
set_option linter.unusedVariables false

/-! ### ElementMoved -/
abbrev KVal := ∀ R : Type, Int → Nat → Nat → Nat → Nat → Nat → Nat → Nat → (Nat → Nat → Int → Option R) → Option R
def sVal (g : KVal) : Sum := fun R args k => match args with
  | [.agg ⟨[.int .u8 kind, .complex .f64 a1 a2, .complex .f64 s1 s2, .float .f64 p]⟩, .complex .f64 z1 z2] => g R kind a1 a2 s1 s2 p z1 z2 fun x y e => k (.tuple ⟨[.complex .f64 x y, .int .i64 e]⟩)
  | _ => none
abbrev KMov := ∀ R : Type, Int → Nat → Nat → Nat → Nat → Nat → Nat → Nat → (Int → Option R) → (Nat → Nat → Option R) → Option R
def sMov (g : KMov) : Sum := fun R args k => match args with
  | [.agg ⟨[.int .u8 kind, .complex .f64 a1 a2, .complex .f64 s1 s2, .float .f64 p]⟩, .complex .f64 b1 b2] =>
    g R kind a1 a2 s1 s2 p b1 b2 (fun e => k (.tuple ⟨[el 0 0 0 0 0 0, .int .i64 e]⟩)) (fun u1 u2 => k (.tuple ⟨[el kind u1 u2 s1 s2 p, .int .i64 0]⟩))
  | _ => none
def movB (chk : KEI) (re : KCB) (add : KCCC) : KMov := fun R kind a1 a2 s1 s2 p b1 b2 er ok =>
  chk R kind a1 a2 s1 s2 p fun e => match decide (e = 0) with
    | false => er e
    | true => re R b1 b2 fun t => forceB t fun t => match t with
      | false => er 5
      | true => forceB (kind == 1) fun t => match t with
        | true => ok a1 a2
        | false => add R a1 a2 b1 b2 fun u1 u2 => chk R kind u1 u2 s1 s2 p fun e => match decide (e = 0) with
          | false => er e
          | true => ok u1 u2
def gz (x y : Int) : Value := .agg ⟨[.int .i16 x, .int .i16 y]⟩
def sSm (g : KGB) : Sum := fun R args k => match args with
  | [.agg ⟨[.int .i16 x, .int .i16 y]⟩] => g R x y fun t => forceB t fun t => k (.bool t)
  | _ => none
def bitsB : ∀ R : Type, Nat → (Int → Option R) → Option R := fun R a k => forceB (neF a a) fun t => match t with
  | true => k 9221120237041090560
  | false => fiReal R (a : Int) k
def sameB : KCCB := fun R a b c d k => bitsB R a fun x => bitsB R c fun y => forceB (x == y) fun t => match t with
  | false => k false
  | true => bitsB R b fun x => bitsB R d fun y => forceB (x == y) fun t => k t

def finM (mul : KCCC) {R : Type} (f : Int) (p1 p2 v1 v2 : Nat) (k : Bool → Option R) : Option R := forceB (f == 0) fun t => match t with
  | false => k false
  | true => forceB (eqF v1 p1) fun s => forceB (eqF v2 p2) fun t => k (s && t)
def tailM (of : KGC) (sub mul : KCCC) {R : Type} (kind x3 y3 : Int) (a1 a2 s1 s2 p : Nat) (f : Int) (p1 p2 : Nat) (k : Bool → Option R) : Option R :=
  of R x3 y3 fun z1 z2 => sub R z1 z2 a1 a2 fun d1 d2 => forceB (kind != 4) fun t => match t with
  | true => k true
  | false =>
    let go1 : Option R := mul R s1 s2 d1 d2 fun v1 v2 => forceB (eqF p 4611686018427387904) fun t => match t with
      | true => mul R v1 v2 d1 d2 fun v1 v2 => finM mul f p1 p2 v1 v2 k
      | false => finM mul f p1 p2 v1 v2 k
    forceB (neF p 4607182418800017408) fun t => match t with
    | true => forceB (neF p 4611686018427387904) fun t => match t with
      | true => k true
      | false => go1
    | false => go1
def lawMB (of : KGC) (sm : KGB) (chk : KEI) (mov : KMov) (add sub mul : KCCC) (pot spd slp : KVal) (same : KCCB) {R : Type} (kind x1 y1 x2 y2 x3 y3 x4 y4 : Int) (p : Nat) (k : Bool → Option R) : Option R :=
  of R x1 y1 fun a1 a2 => of R x2 y2 fun s1 s2 =>
  sm R x1 y1 fun t => forceB t fun t => match t with
  | false => k true
  | true => sm R x2 y2 fun t => forceB t fun t => match t with
    | false => k true
    | true => sm R x3 y3 fun t => forceB t fun t => match t with
      | false => k true
      | true => sm R x4 y4 fun t => forceB t fun t => match t with
        | false => k true
        | true => chk R kind a1 a2 s1 s2 p fun e => match decide (e = 0) with
          | false => k true
          | true => of R x4 y4 fun b1 b2 => mov R kind a1 a2 s1 s2 p b1 b2 (fun e => forceB (e != 0) fun t => match t with | true => k false | false => none) fun u1 u2 =>
            of R x3 y3 fun z1 z2 => of R x4 y4 fun b1 b2 => add R z1 z2 b1 b2 fun w1 w2 =>
            of R x3 y3 fun z1 z2 => pot R kind a1 a2 s1 s2 p z1 z2 fun p1 p2 f => pot R kind u1 u2 s1 s2 p w1 w2 fun q1 q2 g =>
            of R x3 y3 fun z1 z2 => spd R kind a1 a2 s1 s2 p z1 z2 fun c1 c2 h => spd R kind u1 u2 s1 s2 p w1 w2 fun v1 v2 i =>
            of R x3 y3 fun z1 z2 => slp R kind a1 a2 s1 s2 p z1 z2 fun l1 l2 j => slp R kind u1 u2 s1 s2 p w1 w2 fun t1 t2 l =>
            forceB (h != i) fun t => match t with
            | true => k false
            | false => forceB (j != l) fun t => match t with
              | true => k false
              | false => same R c1 c2 v1 v2 fun t => forceB t fun t => match t with
                | false => k false
                | true => same R l1 l2 t1 t2 fun t => forceB t fun t => match t with
                  | false => k false
                  | true => forceB (kind != 1) fun t => match t with
                    | false => tailM of sub mul kind x3 y3 a1 a2 s1 s2 p f p1 p2 k
                    | true => forceB (f != g) fun t => match t with
                      | true => k false
                      | false => same R p1 p2 q1 q2 fun t => forceB t fun t => match t with
                        | false => k false
                        | true => tailM of sub mul kind x3 y3 a1 a2 s1 s2 p f p1 p2 k
def sTrueE : Sum := fun R args k => match args with | [] => k (.bool true) | _ => none
end Go.Vm
namespace Go.Vm
set_option linter.unusedVariables false

/-! ### ElementMoved: what stands in its functions' places -/
def roundK (way : Ieee.Toward) : KFF := fun R x k => match Ieee.double.read x with
  | .nan _ _ => none
  | d => forceN (Ieee.double.write (d.integral way)) k
def wholeB (tr : KFF) : KFB := fun R p k => tr R p fun y => forceB (eqF y p) fun t => k t
def wholeK : KFB := wholeB (roundK .zero)
def checkE : KEI := checkB placeK withinK noughtK wholeK
def wyK : ∀ R : Type, Nat → Option R → Option R := fun R p x => wholeK R p fun t => match t with | true => x | false => none
def wnK : ∀ R : Type, Nat → Option R → Option R := fun R p x => wholeK R p fun t => match t with | true => none | false => x
def smM : KGB := fun R x y k => forceB (decide (x ≥ -1000)) fun t => match t with
  | false => k false
  | true => forceB (decide (x ≤ 1000)) fun t => match t with
    | false => k false
    | true => forceB (decide (y ≥ -1000)) fun t => match t with
      | false => k false
      | true => forceB (decide (y ≤ 1000)) fun t => k t
def fitK : KFB := fun R x k => withinK R x 4697254411347427328 fun t => forceB t fun t => k t
def quarterK : KFFI2 := quarterB fiReal fitK (roundK .even) lessK
def turnK : KFF2 := turnB quarterK stepsK
def expK : KFF := expB fiReal (roundK .even) risingK scaleK
def cexpK : KCC := cexpB expK turnK
def realK : KCFC := realB powLogK sclK cexpK
/-- whole powers from 0 to 10 -/
def wpowK : KW := fun R a b n k =>
  bif n == 0 then k 4607182418800017408 0 else bif n == 1 then k a b else bif n == 2 then wsteps mulK a b (wbits 2) a b k else bif n == 3 then wsteps mulK a b (wbits 3) a b k
  else bif n == 4 then wsteps mulK a b (wbits 4) a b k else bif n == 5 then wsteps mulK a b (wbits 5) a b k else bif n == 6 then wsteps mulK a b (wbits 6) a b k
  else bif n == 7 then wsteps mulK a b (wbits 7) a b k else bif n == 8 then wsteps mulK a b (wbits 8) a b k else bif n == 9 then wsteps mulK a b (wbits 9) a b k
  else bif n == 10 then wsteps mulK a b (wbits 10) a b k else none
def movT : KMov := fun R kind a1 a2 s1 s2 p b1 b2 er ok => movB checkE placeK addK R kind a1 a2 s1 s2 p b1 b2 (fun _ => none) ok

/-! ### Potential, Speed, Slope -/
def vS0 {R : Type} (a1 a2 s1 s2 p z1 z2 : Nat) (er : Int → Option R) (ok : Nat → Nat → Option R) : Option R := valP (checkB placeK withinK noughtK wholeK) placeK noughtK subK 1 p (fun x => x) a1 a2 s1 s2 z1 z2 er (fun d1 d2 => mulK R s1 s2 z1 z2 (toldE FiniteK er ok)) (fun d1 d2 => mulK R s1 s2 z1 z2 (toldE FiniteK er ok))
def vO0 {R : Type} (a1 a2 s1 s2 p z1 z2 : Nat) (er : Int → Option R) (ok : Nat → Nat → Option R) : Option R := valO (checkB placeK withinK noughtK wholeK) placeK noughtK subK sclK a1 a2 s1 s2 p z1 z2 er (fun c1 c2 d1 d2 => powLogK R d1 d2 fun l1 l2 => mulK R c1 c2 l1 l2 (toldE FiniteK er ok))
def vD0_1 {R : Type} (a1 a2 s1 s2 p z1 z2 : Nat) (er : Int → Option R) (ok : Nat → Nat → Option R) : Option R := valP (checkB placeK withinK noughtK wholeK) placeK noughtK subK 3 4607182418800017408 (fun x => x) a1 a2 s1 s2 z1 z2 er (fun _ _ => er 6) (fun d1 d2 => leafD divK sclK wpowK none 1 s1 s2 d1 d2 (toldE FiniteK er ok))
def vD0_2 {R : Type} (a1 a2 s1 s2 p z1 z2 : Nat) (er : Int → Option R) (ok : Nat → Nat → Option R) : Option R := valP (checkB placeK withinK noughtK wholeK) placeK noughtK subK 3 4611686018427387904 (fun x => x) a1 a2 s1 s2 z1 z2 er (fun _ _ => er 6) (fun d1 d2 => leafD divK sclK wpowK none 2 s1 s2 d1 d2 (toldE FiniteK er ok))
def vD0_3 {R : Type} (a1 a2 s1 s2 p z1 z2 : Nat) (er : Int → Option R) (ok : Nat → Nat → Option R) : Option R := valP (checkB placeK withinK noughtK wholeK) placeK noughtK subK 3 4613937818241073152 (fun x => x) a1 a2 s1 s2 z1 z2 er (fun _ _ => er 6) (fun d1 d2 => leafD divK sclK wpowK none 3 s1 s2 d1 d2 (toldE FiniteK er ok))
def vD0_4 {R : Type} (a1 a2 s1 s2 p z1 z2 : Nat) (er : Int → Option R) (ok : Nat → Nat → Option R) : Option R := valP (checkB placeK withinK noughtK wholeK) placeK noughtK subK 3 4616189618054758400 (fun x => x) a1 a2 s1 s2 z1 z2 er (fun _ _ => er 6) (fun d1 d2 => leafD divK sclK wpowK none 4 s1 s2 d1 d2 (toldE FiniteK er ok))
def vD0_5 {R : Type} (a1 a2 s1 s2 p z1 z2 : Nat) (er : Int → Option R) (ok : Nat → Nat → Option R) : Option R := valP (checkB placeK withinK noughtK wholeK) placeK noughtK subK 3 4617315517961601024 (fun x => x) a1 a2 s1 s2 z1 z2 er (fun _ _ => er 6) (fun d1 d2 => leafD divK sclK wpowK none 5 s1 s2 d1 d2 (toldE FiniteK er ok))
def vD0_6 {R : Type} (a1 a2 s1 s2 p z1 z2 : Nat) (er : Int → Option R) (ok : Nat → Nat → Option R) : Option R := valP (checkB placeK withinK noughtK wholeK) placeK noughtK subK 3 4618441417868443648 (fun x => x) a1 a2 s1 s2 z1 z2 er (fun _ _ => er 6) (fun d1 d2 => leafD divK sclK wpowK none 6 s1 s2 d1 d2 (toldE FiniteK er ok))
def vD0_7 {R : Type} (a1 a2 s1 s2 p z1 z2 : Nat) (er : Int → Option R) (ok : Nat → Nat → Option R) : Option R := valP (checkB placeK withinK noughtK wholeK) placeK noughtK subK 3 4619567317775286272 (fun x => x) a1 a2 s1 s2 z1 z2 er (fun _ _ => er 6) (fun d1 d2 => leafD divK sclK wpowK none 7 s1 s2 d1 d2 (toldE FiniteK er ok))
def vD0_8 {R : Type} (a1 a2 s1 s2 p z1 z2 : Nat) (er : Int → Option R) (ok : Nat → Nat → Option R) : Option R := valP (checkB placeK withinK noughtK wholeK) placeK noughtK subK 3 4620693217682128896 (fun x => x) a1 a2 s1 s2 z1 z2 er (fun _ _ => er 6) (fun d1 d2 => leafD divK sclK wpowK none 8 s1 s2 d1 d2 (toldE FiniteK er ok))
def vC0_1 {R : Type} (a1 a2 s1 s2 p z1 z2 : Nat) (er : Int → Option R) (ok : Nat → Nat → Option R) : Option R := valP (checkB placeK withinK noughtK wholeK) placeK noughtK subK 4 4607182418800017408 (wyK R 4607182418800017408) a1 a2 s1 s2 z1 z2 er (fun d1 d2 => leafC mulK sclK wpowK none 1 s1 s2 d1 d2 (toldE FiniteK er ok)) (fun d1 d2 => leafC mulK sclK wpowK none 1 s1 s2 d1 d2 (toldE FiniteK er ok))
def vC0_2 {R : Type} (a1 a2 s1 s2 p z1 z2 : Nat) (er : Int → Option R) (ok : Nat → Nat → Option R) : Option R := valP (checkB placeK withinK noughtK wholeK) placeK noughtK subK 4 4611686018427387904 (wyK R 4611686018427387904) a1 a2 s1 s2 z1 z2 er (fun d1 d2 => leafC mulK sclK wpowK none 2 s1 s2 d1 d2 (toldE FiniteK er ok)) (fun d1 d2 => leafC mulK sclK wpowK none 2 s1 s2 d1 d2 (toldE FiniteK er ok))
def vC0_3 {R : Type} (a1 a2 s1 s2 p z1 z2 : Nat) (er : Int → Option R) (ok : Nat → Nat → Option R) : Option R := valP (checkB placeK withinK noughtK wholeK) placeK noughtK subK 4 4613937818241073152 (wyK R 4613937818241073152) a1 a2 s1 s2 z1 z2 er (fun d1 d2 => leafC mulK sclK wpowK none 3 s1 s2 d1 d2 (toldE FiniteK er ok)) (fun d1 d2 => leafC mulK sclK wpowK none 3 s1 s2 d1 d2 (toldE FiniteK er ok))
def vC0_4 {R : Type} (a1 a2 s1 s2 p z1 z2 : Nat) (er : Int → Option R) (ok : Nat → Nat → Option R) : Option R := valP (checkB placeK withinK noughtK wholeK) placeK noughtK subK 4 4616189618054758400 (wyK R 4616189618054758400) a1 a2 s1 s2 z1 z2 er (fun d1 d2 => leafC mulK sclK wpowK none 4 s1 s2 d1 d2 (toldE FiniteK er ok)) (fun d1 d2 => leafC mulK sclK wpowK none 4 s1 s2 d1 d2 (toldE FiniteK er ok))
def vB0 {R : Type} (a1 a2 s1 s2 p z1 z2 : Nat) (er : Int → Option R) (ok : Nat → Nat → Option R) : Option R := valP (checkB placeK withinK noughtK wholeK) placeK noughtK subK 4 p (wnK R p) a1 a2 s1 s2 z1 z2 er (fun _ _ => midB 0 p er) (fun d1 d2 => leafB0 mulK realK p s1 s2 d1 d2 (toldE FiniteK er ok))
def vD0 {R : Type} (a1 a2 s1 s2 p z1 z2 : Nat) (er : Int → Option R) (ok : Nat → Nat → Option R) : Option R :=
  bif Nat.beq p 4607182418800017408 then vD0_1 a1 a2 s1 s2 p z1 z2 er ok
  else bif Nat.beq p 4611686018427387904 then vD0_2 a1 a2 s1 s2 p z1 z2 er ok
  else bif Nat.beq p 4613937818241073152 then vD0_3 a1 a2 s1 s2 p z1 z2 er ok
  else bif Nat.beq p 4616189618054758400 then vD0_4 a1 a2 s1 s2 p z1 z2 er ok
  else bif Nat.beq p 4617315517961601024 then vD0_5 a1 a2 s1 s2 p z1 z2 er ok
  else bif Nat.beq p 4618441417868443648 then vD0_6 a1 a2 s1 s2 p z1 z2 er ok
  else bif Nat.beq p 4619567317775286272 then vD0_7 a1 a2 s1 s2 p z1 z2 er ok
  else bif Nat.beq p 4620693217682128896 then vD0_8 a1 a2 s1 s2 p z1 z2 er ok
  else none
def vC0 {R : Type} (a1 a2 s1 s2 p z1 z2 : Nat) (er : Int → Option R) (ok : Nat → Nat → Option R) : Option R :=
  bif Nat.beq p 4607182418800017408 then vC0_1 a1 a2 s1 s2 p z1 z2 er ok
  else bif Nat.beq p 4611686018427387904 then vC0_2 a1 a2 s1 s2 p z1 z2 er ok
  else bif Nat.beq p 4613937818241073152 then vC0_3 a1 a2 s1 s2 p z1 z2 er ok
  else bif Nat.beq p 4616189618054758400 then vC0_4 a1 a2 s1 s2 p z1 z2 er ok
  else vB0 a1 a2 s1 s2 p z1 z2 er ok
def potK' {R : Type} (kind : Int) (a1 a2 s1 s2 p z1 z2 : Nat) (er : Int → Option R) (ok : Nat → Nat → Option R) : Option R :=
  bif kind == 1 then vS0 a1 a2 s1 s2 p z1 z2 er ok else bif kind == 2 then vO0 a1 a2 s1 s2 p z1 z2 er ok else bif kind == 3 then vD0 a1 a2 s1 s2 p z1 z2 er ok else bif kind == 4 then vC0 a1 a2 s1 s2 p z1 z2 er ok else none
def potK : KVal := fun R kind a1 a2 s1 s2 p z1 z2 k => potK' kind a1 a2 s1 s2 p z1 z2 (fun e => k 0 0 e) (fun x y => k x y 0)
def vS1 {R : Type} (a1 a2 s1 s2 p z1 z2 : Nat) (er : Int → Option R) (ok : Nat → Nat → Option R) : Option R := valP (checkB placeK withinK noughtK wholeK) placeK noughtK subK 1 p (fun x => x) a1 a2 s1 s2 z1 z2 er (fun d1 d2 => (toldE FiniteK er ok) s1 s2) (fun d1 d2 => (toldE FiniteK er ok) s1 s2)
def vO1 {R : Type} (a1 a2 s1 s2 p z1 z2 : Nat) (er : Int → Option R) (ok : Nat → Nat → Option R) : Option R := valO (checkB placeK withinK noughtK wholeK) placeK noughtK subK sclK a1 a2 s1 s2 p z1 z2 er (fun c1 c2 d1 d2 => divK R c1 c2 d1 d2 (toldE FiniteK er ok))
def vD1_1 {R : Type} (a1 a2 s1 s2 p z1 z2 : Nat) (er : Int → Option R) (ok : Nat → Nat → Option R) : Option R := valP (checkB placeK withinK noughtK wholeK) placeK noughtK subK 3 4607182418800017408 (fun x => x) a1 a2 s1 s2 z1 z2 er (fun _ _ => er 6) (fun d1 d2 => leafD divK sclK wpowK (some 13830554455654793216) 2 s1 s2 d1 d2 (toldE FiniteK er ok))
def vD1_2 {R : Type} (a1 a2 s1 s2 p z1 z2 : Nat) (er : Int → Option R) (ok : Nat → Nat → Option R) : Option R := valP (checkB placeK withinK noughtK wholeK) placeK noughtK subK 3 4611686018427387904 (fun x => x) a1 a2 s1 s2 z1 z2 er (fun _ _ => er 6) (fun d1 d2 => leafD divK sclK wpowK (some 13835058055282163712) 3 s1 s2 d1 d2 (toldE FiniteK er ok))
def vD1_3 {R : Type} (a1 a2 s1 s2 p z1 z2 : Nat) (er : Int → Option R) (ok : Nat → Nat → Option R) : Option R := valP (checkB placeK withinK noughtK wholeK) placeK noughtK subK 3 4613937818241073152 (fun x => x) a1 a2 s1 s2 z1 z2 er (fun _ _ => er 6) (fun d1 d2 => leafD divK sclK wpowK (some 13837309855095848960) 4 s1 s2 d1 d2 (toldE FiniteK er ok))
def vD1_4 {R : Type} (a1 a2 s1 s2 p z1 z2 : Nat) (er : Int → Option R) (ok : Nat → Nat → Option R) : Option R := valP (checkB placeK withinK noughtK wholeK) placeK noughtK subK 3 4616189618054758400 (fun x => x) a1 a2 s1 s2 z1 z2 er (fun _ _ => er 6) (fun d1 d2 => leafD divK sclK wpowK (some 13839561654909534208) 5 s1 s2 d1 d2 (toldE FiniteK er ok))
def vD1_5 {R : Type} (a1 a2 s1 s2 p z1 z2 : Nat) (er : Int → Option R) (ok : Nat → Nat → Option R) : Option R := valP (checkB placeK withinK noughtK wholeK) placeK noughtK subK 3 4617315517961601024 (fun x => x) a1 a2 s1 s2 z1 z2 er (fun _ _ => er 6) (fun d1 d2 => leafD divK sclK wpowK (some 13840687554816376832) 6 s1 s2 d1 d2 (toldE FiniteK er ok))
def vD1_6 {R : Type} (a1 a2 s1 s2 p z1 z2 : Nat) (er : Int → Option R) (ok : Nat → Nat → Option R) : Option R := valP (checkB placeK withinK noughtK wholeK) placeK noughtK subK 3 4618441417868443648 (fun x => x) a1 a2 s1 s2 z1 z2 er (fun _ _ => er 6) (fun d1 d2 => leafD divK sclK wpowK (some 13841813454723219456) 7 s1 s2 d1 d2 (toldE FiniteK er ok))
def vD1_7 {R : Type} (a1 a2 s1 s2 p z1 z2 : Nat) (er : Int → Option R) (ok : Nat → Nat → Option R) : Option R := valP (checkB placeK withinK noughtK wholeK) placeK noughtK subK 3 4619567317775286272 (fun x => x) a1 a2 s1 s2 z1 z2 er (fun _ _ => er 6) (fun d1 d2 => leafD divK sclK wpowK (some 13842939354630062080) 8 s1 s2 d1 d2 (toldE FiniteK er ok))
def vD1_8 {R : Type} (a1 a2 s1 s2 p z1 z2 : Nat) (er : Int → Option R) (ok : Nat → Nat → Option R) : Option R := valP (checkB placeK withinK noughtK wholeK) placeK noughtK subK 3 4620693217682128896 (fun x => x) a1 a2 s1 s2 z1 z2 er (fun _ _ => er 6) (fun d1 d2 => leafD divK sclK wpowK (some 13844065254536904704) 9 s1 s2 d1 d2 (toldE FiniteK er ok))
def vC1_1 {R : Type} (a1 a2 s1 s2 p z1 z2 : Nat) (er : Int → Option R) (ok : Nat → Nat → Option R) : Option R := valP (checkB placeK withinK noughtK wholeK) placeK noughtK subK 4 4607182418800017408 (wyK R 4607182418800017408) a1 a2 s1 s2 z1 z2 er (fun d1 d2 => leafC mulK sclK wpowK (some 4607182418800017408) 0 s1 s2 d1 d2 (toldE FiniteK er ok)) (fun d1 d2 => leafC mulK sclK wpowK (some 4607182418800017408) 0 s1 s2 d1 d2 (toldE FiniteK er ok))
def vC1_2 {R : Type} (a1 a2 s1 s2 p z1 z2 : Nat) (er : Int → Option R) (ok : Nat → Nat → Option R) : Option R := valP (checkB placeK withinK noughtK wholeK) placeK noughtK subK 4 4611686018427387904 (wyK R 4611686018427387904) a1 a2 s1 s2 z1 z2 er (fun d1 d2 => leafC mulK sclK wpowK (some 4611686018427387904) 1 s1 s2 d1 d2 (toldE FiniteK er ok)) (fun d1 d2 => leafC mulK sclK wpowK (some 4611686018427387904) 1 s1 s2 d1 d2 (toldE FiniteK er ok))
def vC1_3 {R : Type} (a1 a2 s1 s2 p z1 z2 : Nat) (er : Int → Option R) (ok : Nat → Nat → Option R) : Option R := valP (checkB placeK withinK noughtK wholeK) placeK noughtK subK 4 4613937818241073152 (wyK R 4613937818241073152) a1 a2 s1 s2 z1 z2 er (fun d1 d2 => leafC mulK sclK wpowK (some 4613937818241073152) 2 s1 s2 d1 d2 (toldE FiniteK er ok)) (fun d1 d2 => leafC mulK sclK wpowK (some 4613937818241073152) 2 s1 s2 d1 d2 (toldE FiniteK er ok))
def vC1_4 {R : Type} (a1 a2 s1 s2 p z1 z2 : Nat) (er : Int → Option R) (ok : Nat → Nat → Option R) : Option R := valP (checkB placeK withinK noughtK wholeK) placeK noughtK subK 4 4616189618054758400 (wyK R 4616189618054758400) a1 a2 s1 s2 z1 z2 er (fun d1 d2 => leafC mulK sclK wpowK (some 4616189618054758400) 3 s1 s2 d1 d2 (toldE FiniteK er ok)) (fun d1 d2 => leafC mulK sclK wpowK (some 4616189618054758400) 3 s1 s2 d1 d2 (toldE FiniteK er ok))
def vB1 {R : Type} (a1 a2 s1 s2 p z1 z2 : Nat) (er : Int → Option R) (ok : Nat → Nat → Option R) : Option R := valP (checkB placeK withinK noughtK wholeK) placeK noughtK subK 4 p (wnK R p) a1 a2 s1 s2 z1 z2 er (fun _ _ => midB 4607182418800017408 p er) (fun d1 d2 => leafB1 mulK sclK realK p s1 s2 d1 d2 (toldE FiniteK er ok))
def vD1 {R : Type} (a1 a2 s1 s2 p z1 z2 : Nat) (er : Int → Option R) (ok : Nat → Nat → Option R) : Option R :=
  bif Nat.beq p 4607182418800017408 then vD1_1 a1 a2 s1 s2 p z1 z2 er ok
  else bif Nat.beq p 4611686018427387904 then vD1_2 a1 a2 s1 s2 p z1 z2 er ok
  else bif Nat.beq p 4613937818241073152 then vD1_3 a1 a2 s1 s2 p z1 z2 er ok
  else bif Nat.beq p 4616189618054758400 then vD1_4 a1 a2 s1 s2 p z1 z2 er ok
  else bif Nat.beq p 4617315517961601024 then vD1_5 a1 a2 s1 s2 p z1 z2 er ok
  else bif Nat.beq p 4618441417868443648 then vD1_6 a1 a2 s1 s2 p z1 z2 er ok
  else bif Nat.beq p 4619567317775286272 then vD1_7 a1 a2 s1 s2 p z1 z2 er ok
  else bif Nat.beq p 4620693217682128896 then vD1_8 a1 a2 s1 s2 p z1 z2 er ok
  else none
def vC1 {R : Type} (a1 a2 s1 s2 p z1 z2 : Nat) (er : Int → Option R) (ok : Nat → Nat → Option R) : Option R :=
  bif Nat.beq p 4607182418800017408 then vC1_1 a1 a2 s1 s2 p z1 z2 er ok
  else bif Nat.beq p 4611686018427387904 then vC1_2 a1 a2 s1 s2 p z1 z2 er ok
  else bif Nat.beq p 4613937818241073152 then vC1_3 a1 a2 s1 s2 p z1 z2 er ok
  else bif Nat.beq p 4616189618054758400 then vC1_4 a1 a2 s1 s2 p z1 z2 er ok
  else vB1 a1 a2 s1 s2 p z1 z2 er ok
def spdK' {R : Type} (kind : Int) (a1 a2 s1 s2 p z1 z2 : Nat) (er : Int → Option R) (ok : Nat → Nat → Option R) : Option R :=
  bif kind == 1 then vS1 a1 a2 s1 s2 p z1 z2 er ok else bif kind == 2 then vO1 a1 a2 s1 s2 p z1 z2 er ok else bif kind == 3 then vD1 a1 a2 s1 s2 p z1 z2 er ok else bif kind == 4 then vC1 a1 a2 s1 s2 p z1 z2 er ok else none
def spdK : KVal := fun R kind a1 a2 s1 s2 p z1 z2 k => spdK' kind a1 a2 s1 s2 p z1 z2 (fun e => k 0 0 e) (fun x y => k x y 0)
def vS2 {R : Type} (a1 a2 s1 s2 p z1 z2 : Nat) (er : Int → Option R) (ok : Nat → Nat → Option R) : Option R := valP (checkB placeK withinK noughtK wholeK) placeK noughtK subK 1 p (fun x => x) a1 a2 s1 s2 z1 z2 er (fun d1 d2 => (toldE FiniteK er ok) 0 0) (fun d1 d2 => (toldE FiniteK er ok) 0 0)
def vO2 {R : Type} (a1 a2 s1 s2 p z1 z2 : Nat) (er : Int → Option R) (ok : Nat → Nat → Option R) : Option R := valO (checkB placeK withinK noughtK wholeK) placeK noughtK subK sclK a1 a2 s1 s2 p z1 z2 er (fun c1 c2 d1 d2 => negK R c1 c2 fun c1 c2 => wpowK R d1 d2 2 fun w1 w2 => divK R c1 c2 w1 w2 (toldE FiniteK er ok))
def vD2_1 {R : Type} (a1 a2 s1 s2 p z1 z2 : Nat) (er : Int → Option R) (ok : Nat → Nat → Option R) : Option R := valP (checkB placeK withinK noughtK wholeK) placeK noughtK subK 3 4607182418800017408 (fun x => x) a1 a2 s1 s2 z1 z2 er (fun _ _ => er 6) (fun d1 d2 => leafD divK sclK wpowK (some 4611686018427387904) 3 s1 s2 d1 d2 (toldE FiniteK er ok))
def vD2_2 {R : Type} (a1 a2 s1 s2 p z1 z2 : Nat) (er : Int → Option R) (ok : Nat → Nat → Option R) : Option R := valP (checkB placeK withinK noughtK wholeK) placeK noughtK subK 3 4611686018427387904 (fun x => x) a1 a2 s1 s2 z1 z2 er (fun _ _ => er 6) (fun d1 d2 => leafD divK sclK wpowK (some 4618441417868443648) 4 s1 s2 d1 d2 (toldE FiniteK er ok))
def vD2_3 {R : Type} (a1 a2 s1 s2 p z1 z2 : Nat) (er : Int → Option R) (ok : Nat → Nat → Option R) : Option R := valP (checkB placeK withinK noughtK wholeK) placeK noughtK subK 3 4613937818241073152 (fun x => x) a1 a2 s1 s2 z1 z2 er (fun _ _ => er 6) (fun d1 d2 => leafD divK sclK wpowK (some 4622945017495814144) 5 s1 s2 d1 d2 (toldE FiniteK er ok))
def vD2_4 {R : Type} (a1 a2 s1 s2 p z1 z2 : Nat) (er : Int → Option R) (ok : Nat → Nat → Option R) : Option R := valP (checkB placeK withinK noughtK wholeK) placeK noughtK subK 3 4616189618054758400 (fun x => x) a1 a2 s1 s2 z1 z2 er (fun _ _ => er 6) (fun d1 d2 => leafD divK sclK wpowK (some 4626322717216342016) 6 s1 s2 d1 d2 (toldE FiniteK er ok))
def vD2_5 {R : Type} (a1 a2 s1 s2 p z1 z2 : Nat) (er : Int → Option R) (ok : Nat → Nat → Option R) : Option R := valP (checkB placeK withinK noughtK wholeK) placeK noughtK subK 3 4617315517961601024 (fun x => x) a1 a2 s1 s2 z1 z2 er (fun _ _ => er 6) (fun d1 d2 => leafD divK sclK wpowK (some 4629137466983448576) 7 s1 s2 d1 d2 (toldE FiniteK er ok))
def vD2_6 {R : Type} (a1 a2 s1 s2 p z1 z2 : Nat) (er : Int → Option R) (ok : Nat → Nat → Option R) : Option R := valP (checkB placeK withinK noughtK wholeK) placeK noughtK subK 3 4618441417868443648 (fun x => x) a1 a2 s1 s2 z1 z2 er (fun _ _ => er 6) (fun d1 d2 => leafD divK sclK wpowK (some 4631107791820423168) 8 s1 s2 d1 d2 (toldE FiniteK er ok))
def vD2_7 {R : Type} (a1 a2 s1 s2 p z1 z2 : Nat) (er : Int → Option R) (ok : Nat → Nat → Option R) : Option R := valP (checkB placeK withinK noughtK wholeK) placeK noughtK subK 3 4619567317775286272 (fun x => x) a1 a2 s1 s2 z1 z2 er (fun _ _ => er 6) (fun d1 d2 => leafD divK sclK wpowK (some 4633078116657397760) 9 s1 s2 d1 d2 (toldE FiniteK er ok))
def vD2_8 {R : Type} (a1 a2 s1 s2 p z1 z2 : Nat) (er : Int → Option R) (ok : Nat → Nat → Option R) : Option R := valP (checkB placeK withinK noughtK wholeK) placeK noughtK subK 3 4620693217682128896 (fun x => x) a1 a2 s1 s2 z1 z2 er (fun _ _ => er 6) (fun d1 d2 => leafD divK sclK wpowK (some 4634766966517661696) 10 s1 s2 d1 d2 (toldE FiniteK er ok))
def vC2_1 {R : Type} (a1 a2 s1 s2 p z1 z2 : Nat) (er : Int → Option R) (ok : Nat → Nat → Option R) : Option R := valP (checkB placeK withinK noughtK wholeK) placeK noughtK subK 4 4607182418800017408 (wyK R 4607182418800017408) a1 a2 s1 s2 z1 z2 er (fun d1 d2 => (toldE FiniteK er ok) 0 0) (fun d1 d2 => (toldE FiniteK er ok) 0 0)
def vC2_2 {R : Type} (a1 a2 s1 s2 p z1 z2 : Nat) (er : Int → Option R) (ok : Nat → Nat → Option R) : Option R := valP (checkB placeK withinK noughtK wholeK) placeK noughtK subK 4 4611686018427387904 (wyK R 4611686018427387904) a1 a2 s1 s2 z1 z2 er (fun d1 d2 => leafC mulK sclK wpowK (some 4611686018427387904) 0 s1 s2 d1 d2 (toldE FiniteK er ok)) (fun d1 d2 => leafC mulK sclK wpowK (some 4611686018427387904) 0 s1 s2 d1 d2 (toldE FiniteK er ok))
def vC2_3 {R : Type} (a1 a2 s1 s2 p z1 z2 : Nat) (er : Int → Option R) (ok : Nat → Nat → Option R) : Option R := valP (checkB placeK withinK noughtK wholeK) placeK noughtK subK 4 4613937818241073152 (wyK R 4613937818241073152) a1 a2 s1 s2 z1 z2 er (fun d1 d2 => leafC mulK sclK wpowK (some 4618441417868443648) 1 s1 s2 d1 d2 (toldE FiniteK er ok)) (fun d1 d2 => leafC mulK sclK wpowK (some 4618441417868443648) 1 s1 s2 d1 d2 (toldE FiniteK er ok))
def vC2_4 {R : Type} (a1 a2 s1 s2 p z1 z2 : Nat) (er : Int → Option R) (ok : Nat → Nat → Option R) : Option R := valP (checkB placeK withinK noughtK wholeK) placeK noughtK subK 4 4616189618054758400 (wyK R 4616189618054758400) a1 a2 s1 s2 z1 z2 er (fun d1 d2 => leafC mulK sclK wpowK (some 4622945017495814144) 2 s1 s2 d1 d2 (toldE FiniteK er ok)) (fun d1 d2 => leafC mulK sclK wpowK (some 4622945017495814144) 2 s1 s2 d1 d2 (toldE FiniteK er ok))
def vB2 {R : Type} (a1 a2 s1 s2 p z1 z2 : Nat) (er : Int → Option R) (ok : Nat → Nat → Option R) : Option R := valP (checkB placeK withinK noughtK wholeK) placeK noughtK subK 4 p (wnK R p) a1 a2 s1 s2 z1 z2 er (fun _ _ => midB 4611686018427387904 p er) (fun d1 d2 => leafB2 mulK sclK realK p s1 s2 d1 d2 (toldE FiniteK er ok))
def vD2 {R : Type} (a1 a2 s1 s2 p z1 z2 : Nat) (er : Int → Option R) (ok : Nat → Nat → Option R) : Option R :=
  bif Nat.beq p 4607182418800017408 then vD2_1 a1 a2 s1 s2 p z1 z2 er ok
  else bif Nat.beq p 4611686018427387904 then vD2_2 a1 a2 s1 s2 p z1 z2 er ok
  else bif Nat.beq p 4613937818241073152 then vD2_3 a1 a2 s1 s2 p z1 z2 er ok
  else bif Nat.beq p 4616189618054758400 then vD2_4 a1 a2 s1 s2 p z1 z2 er ok
  else bif Nat.beq p 4617315517961601024 then vD2_5 a1 a2 s1 s2 p z1 z2 er ok
  else bif Nat.beq p 4618441417868443648 then vD2_6 a1 a2 s1 s2 p z1 z2 er ok
  else bif Nat.beq p 4619567317775286272 then vD2_7 a1 a2 s1 s2 p z1 z2 er ok
  else bif Nat.beq p 4620693217682128896 then vD2_8 a1 a2 s1 s2 p z1 z2 er ok
  else none
def vC2 {R : Type} (a1 a2 s1 s2 p z1 z2 : Nat) (er : Int → Option R) (ok : Nat → Nat → Option R) : Option R :=
  bif Nat.beq p 4607182418800017408 then vC2_1 a1 a2 s1 s2 p z1 z2 er ok
  else bif Nat.beq p 4611686018427387904 then vC2_2 a1 a2 s1 s2 p z1 z2 er ok
  else bif Nat.beq p 4613937818241073152 then vC2_3 a1 a2 s1 s2 p z1 z2 er ok
  else bif Nat.beq p 4616189618054758400 then vC2_4 a1 a2 s1 s2 p z1 z2 er ok
  else vB2 a1 a2 s1 s2 p z1 z2 er ok
def slpK' {R : Type} (kind : Int) (a1 a2 s1 s2 p z1 z2 : Nat) (er : Int → Option R) (ok : Nat → Nat → Option R) : Option R :=
  bif kind == 1 then vS2 a1 a2 s1 s2 p z1 z2 er ok else bif kind == 2 then vO2 a1 a2 s1 s2 p z1 z2 er ok else bif kind == 3 then vD2 a1 a2 s1 s2 p z1 z2 er ok else bif kind == 4 then vC2 a1 a2 s1 s2 p z1 z2 er ok else none
def slpK : KVal := fun R kind a1 a2 s1 s2 p z1 z2 k => slpK' kind a1 a2 s1 s2 p z1 z2 (fun e => k 0 0 e) (fun x y => k x y 0)
end Go.Vm
