/- What the functions of packages math and roots compute, in Lean; no conditions. What logarithms and angles compute, as functions of words; no conditions. What the functions of package chart compute, in Lean; no conditions. What ChartThree's functions compute, in Lean; no conditions. What ChartThere's functions compute, in Lean; no conditions. What the speeds of elements, and sines and cosines, compute as functions of words; no conditions. Quotients and roots of words are those of their numbers, rounded; no conditions. Sums and products of whole words are exact below 2 to the 53; no conditions. -/
import Derived.Test.YtnbpfafngidimaaGreatVmLP
import Derived.Test.YtnbpfafngidimaaGreatVmF0
namespace Go.Vm
open Ieee
set_option linter.unusedVariables false
set_option linter.unusedSimpArgs false

/-! ### Package math, roots: in continuation style -/
def andU (x y : Int) : Int := IntKind.u64.wrap ((BitVec.ofInt 64 x &&& BitVec.ofInt 64 y).toNat : Nat)
def andI (x y : Int) : Int := IntKind.i64.wrap ((BitVec.ofInt 64 x &&& BitVec.ofInt 64 y).toNat : Nat)
def andNotU (x y : Int) : Int := IntKind.u64.wrap ((BitVec.ofInt 64 x &&& ~~~(BitVec.ofInt 64 y)).toNat : Nat)
def orU (x y : Int) : Int := IntKind.u64.wrap ((BitVec.ofInt 64 x ||| BitVec.ofInt 64 y).toNat : Nat)

def shrU (x n : Int) : Int := x.fdiv (2 ^ min n.toNat IntKind.u64.bits)
def shlU (x n : Int) : Int := IntKind.u64.wrap (x * 2 ^ min n.toNat IntKind.u64.bits)

abbrev KFFI := ∀ R : Type, Nat → (Nat → Int → Option R) → Option R
abbrev KFIF := ∀ R : Type, Nat → Int → (Nat → Option R) → Option R
abbrev KCF := ∀ R : Type, Nat → Nat → (Nat → Option R) → Option R
abbrev KCCI := ∀ R : Type, Nat → Nat → (Nat → Nat → Int → Option R) → Option R
abbrev KCCFB := ∀ R : Type, Nat → Nat → Nat → Nat → Nat → (Bool → Option R) → Option R

def sInf (g : KFB) : Sum := fun R args k => match args with
  | [.float .f64 a, .int .i64 s] => bif s == 0 then g R a fun t => forceB t fun t => k (.bool t) else none
  | _ => none
def sFFI (g : KFFI) : Sum := fun R args k => match args with
  | [.float .f64 a] => g R a fun x e => k (.tuple ⟨[.float .f64 x, .int .i64 e]⟩)
  | _ => none
def sFIF (g : KFIF) : Sum := fun R args k => match args with
  | [.float .f64 a, .int .i64 e] => g R a e fun x => k (.float .f64 x)
  | _ => none
def sCF (g : KCF) : Sum := fun R args k => match args with
  | [.complex .f64 a b] => g R a b fun x => k (.float .f64 x)
  | _ => none
def sCCI (g : KCCI) : Sum := fun R args k => match args with
  | [.complex .f64 a b] => g R a b fun x y e => k (.tuple ⟨[.complex .f64 x y, .int .i64 e]⟩)
  | _ => none
def sCCFB (g : KCCFB) : Sum := fun R args k => match args with
  | [.complex .f64 a b, .complex .f64 c d, .float .f64 m] => g R a b c d m fun t => forceB t fun t => k (.bool t)
  | _ => none
/-- a function that is not to be come to -/
def sNever : Sum := fun R args k => none

def isInfB (ab : KFF) : KFB := fun R a k => ab R a fun x => forceB (gtF x 9218868437227405311) fun t => k t
def isNanK : KFB := fun R a k => forceB (neF a a) fun t => k t
def normB (ab : KFF) : KFFI := fun R a k => ab R a fun x => forceB (ltF x 4503599627370496) fun t => match t with
  | true => bindF (fbF .mul a 4841369599423283200) fun y => k y (-52)
  | false => k a 0
def expoOf {R : Type} (fi : Fi) (y : Nat) (k : Int → Option R) : Option R := fi R (IntKind.i64.wrap (andU (shrU y 52) 2047)) k
def frexpTail {R : Type} (fi : Fi) (y : Nat) (e : Int) (k : Nat → Int → Option R) : Option R :=
  expoOf fi y fun n1 => fi R (IntKind.i64.wrap (n1 - 1023)) fun n2 => fi R (IntKind.i64.wrap (n2 + 1)) fun n3 => fi R (IntKind.i64.wrap (e + n3)) fun n4 =>
    k (orU (andNotU y 9218868437227405312) 4602678819172646912).toNat n4
def frexpB (fi : Fi) (inf nan : KFB) (nm : KFFI) : KFFI := fun R a k => forceB (eqF a 0) fun t => match t with
  | true => k a 0
  | false => inf R a fun t => forceB t fun t => match t with
    | true => k a 0
    | false => nan R a fun t => forceB t fun t => match t with
      | true => k a 0
      | false => nm R a fun y e => frexpTail fi y e k
def ldexpEnd {R : Type} (fi : Fi) (y : Nat) (ex : Int) (m : Nat) (k : Nat → Option R) : Option R :=
  fi R (IntKind.i64.wrap (ex + 1023)) fun n1 => fi R (IntKind.u64.wrap n1) fun n2 =>
    bindF (fbF .mul m (orU (andNotU y 9218868437227405312) (shlU n2 52)).toNat) k
abbrev KFFF := ∀ R : Type, Nat → Nat → (Nat → Option R) → Option R
def sFFF (g : KFFF) : Sum := fun R args k => match args with
  | [.float .f64 a, .float .f64 b] => g R a b fun x => k (.float .f64 x)
  | _ => none
def copyK : KFFF := fun R a b k => k (orU (andNotU a 9223372036854775808) (andU b 9223372036854775808)).toNat
def ldexpTail {R : Type} (fi : Fi) (cp : KFFF) (y : Nat) (e n : Int) (k : Nat → Option R) : Option R :=
  fi R (IntKind.i64.wrap (n + e)) fun n1 => fi R (IntKind.i64.wrap (shrU y 52)) fun n2 => fi R (IntKind.i64.wrap (andI n2 2047 - 1023)) fun n3 => fi R (IntKind.i64.wrap (n1 + n3)) fun ex =>
    forceB (decide (ex < -1075)) fun t => match t with
    | true => cp R 0 y k
    | false => forceB (decide (ex > 1023)) fun t => match t with
      | true => forceB (ltF y 0) fun _ => none
      | false => forceB (decide (ex < -1022)) fun t => match t with
        | true => fi R (IntKind.i64.wrap (ex + 53)) fun ex => ldexpEnd fi y ex 4368491638549381120 k
        | false => ldexpEnd fi y ex 4607182418800017408 k
def ldexpB (fi : Fi) (cp : KFFF) (inf nan : KFB) (nm : KFFI) : KFIF := fun R a n k => forceB (eqF a 0) fun t => match t with
  | true => k a
  | false => inf R a fun t => forceB t fun t => match t with
    | true => k a
    | false => nan R a fun t => forceB t fun t => match t with
      | true => k a
      | false => nm R a fun y e => ldexpTail fi cp y e n k
def clampI (n : Int) : Int := if (if n < 5000 then n else 5000) > -5000 then (if n < 5000 then n else 5000) else -5000
def scaleB (ld : KFIF) : KFIF := fun R a n k => ld R a (clampI n) k
def greatestB (ab : KFF) : KCF := fun R a b k => ab R a fun x => ab R b fun y => forceB (gtF y x) fun t => match t with
  | true => k y
  | false => k x
def scaledB (gr : KCF) (pa : KFFI) (sc : KFIF) : KCCI := fun R a b k => gr R a b fun g => pa R g fun _ e =>
  sc R a (IntKind.i64.wrap (0 - e)) fun x => sc R b (IntKind.i64.wrap (0 - e)) fun y => k x y e
def squareK : KCF := fun R a b k => bindF (fbF .mul a a) fun x => bindF (fbF .mul b b) fun y => bindF (fbF .add x y) k
def lengthB (inf nan : KFB) (gr : KCF) (sd : KCCI) (sq : KCF) (rt : KFF) (sc : KFIF) : KCF := fun R a b k =>
  inf R a fun t => forceB t fun t => match t with
  | true => none
  | false => inf R b fun t => forceB t fun t => match t with
    | true => none
    | false => nan R a fun t => forceB t fun t => match t with
      | true => none
      | false => nan R b fun t => forceB t fun t => match t with
        | true => none
        | false => gr R a b fun g => forceB (eqF g 0) fun t => match t with
          | true => k 0
          | false => sd R a b fun x y e => sq R x y fun s => rt R s fun r => sc R r e k
def nearB (sub : KCCC) (len : KCF) : KCCFB := fun R a b c d m k => sub R a b c d fun x y => len R x y fun l => forceB (leF l m) fun t => k t
def finiteB (ab : KFF) : KFB := fun R a k => ab R a fun x => forceB (leF x 9218868437227405311) fun t => k t
def FiniteB (fi : KFB) : KCB := fun R a b k => fi R a fun t => forceB t fun t => match t with
  | true => fi R b fun t => forceB t fun t => k t
  | false => k false
def divB (ab : KFF) : KCCC := fun R p q r s k =>
  ab R r fun x => ab R s fun y => forceB (geF x y) fun t => match t with
  | true => bindF (fbF .quo s r) fun h => bindF (fbF .mul s h) fun sh => bindF (fbF .add r sh) fun t =>
      bindF (fbF .mul q h) fun qh => bindF (fbF .add p qh) fun n1 => bindF (fbF .quo n1 t) fun re =>
      bindF (fbF .mul p h) fun ph => bindF (fbF .sub q ph) fun n2 => bindF (fbF .quo n2 t) fun im => k re im
  | false => bindF (fbF .quo r s) fun h => bindF (fbF .mul r h) fun rh => bindF (fbF .add rh s) fun t =>
      bindF (fbF .mul p h) fun ph => bindF (fbF .add ph q) fun n1 => bindF (fbF .quo n1 t) fun re =>
      bindF (fbF .mul q h) fun qh => bindF (fbF .sub qh p) fun n2 => bindF (fbF .quo n2 t) fun im => k re im
end Go.Vm
namespace Go.Vm
open Ieee
set_option linter.unusedVariables false
set_option linter.unusedSimpArgs false

/-! ### Logarithms and angles -/
def sPi : Sum := fun R args k => match args with
  | [] => k (.tuple ⟨[.float .f64 4614256656552045848, .float .f64 4368955796522032135]⟩)
  | _ => none
def sInfW2 : Sum := fun R args k => match args with
  | [.int .i64 s] => bif s == 1 then k (.float .f64 9218868437227405312) else bif s == -1 then k (.float .f64 18442240474082181120) else none
  | _ => none
/-- s := r - z s, for each r -/
def series {R : Type} (z : Nat) : List Nat → Nat → (Nat → Option R) → Option R
  | [], s, k => k s
  | r :: rs, s, k => bindF (fbF .mul z s) fun p => bindF (fbF .sub r p) fun s => series z rs s k
def seriesP {R : Type} (z : Nat) : List Nat → Nat → (Nat → Option R) → Option R
  | [], s, k => k s
  | r :: rs, s, k => bindF (fbF .mul z s) fun p => bindF (fbF .add r p) fun s => seriesP z rs s k
def coreList : List Nat := [4581539473982948665, 4581789782603141207, 4582062340878461975, 4582360253411952116, 4582687230582855930, 4583047743873852442, 4583447231574686416, 4583892375012758557, 4584391475231203080, 4584809698070499460, 4585130310279789462, 4585498420594159464, 4585925428558828667, 4586426698778222948, 4587023449039406616, 4587745830934523688, 4588638185040256542, 4589468260265693457, 4590207312512236308, 4591215111030249286, 4592670820000712476, 4594314991293244562, 4596373779694328218, 4599676419421066581, 4607182418800017408]
def oddList : List Nat := [4586426698778222948, 4587023449039406616, 4587745830934523688, 4588638185040256542, 4589468260265693457, 4590207312512236308, 4591215111030249286, 4592670820000712476, 4594314991293244562, 4596373779694328218, 4599676419421066581]
def coreK : KFF := fun R t k => forceB (gtF t 4601130706800738304) fun far => match far with
  | true => bindF (fbF .sub t 4607182418800017408) fun d => bindF (fbF .add t 4607182418800017408) fun e => bindF (fbF .quo d e) fun u =>
      bindF (fbF .mul u u) fun z => series z coreList 0 fun s => bindF (fbF .mul u s) fun v => bindF (fbF .add v 4359948597267291143) fun x => bindF (fbF .add 4605249457297304856 x) k
  | false => bindF (fbF .mul t t) fun z => series z coreList 0 fun s => bindF (fbF .mul t s) k
def oddK : KFF := fun R f k => bindF (fbF .mul f f) fun s => seriesP s oddList 4585925428558828667 fun q =>
  bindF (fbF .mul 4611686018427387904 f) fun a => bindF (fbF .mul s q) fun x => bindF (fbF .mul a x) fun y => bindF (fbF .add a y) k
def logB (fi : Fi) (infP : KFB) (pa : KFFI) (odd : KFF) : KFF := fun R x k => forceB (neF x x) fun t => match t with
  | true => k x
  | false => infP R x fun t => forceB t fun t => match t with
    | true => k x
    | false => forceB (ltF x 0) fun t => match t with
      | true => none
      | false => forceB (eqF x 0) fun t => match t with
        | true => k 18442240474082181120
        | false => pa R x fun m e =>
          let rest : Nat → Int → Option R := fun m e => forceN (floatOfInt .f64 e) fun n => bindF (fbF .mul n 4604418534311723008) fun h => bindF (fbF .mul n 4461442080421002358) fun l =>
            bindF (fbF .sub m 4607182418800017408) fun p => bindF (fbF .add m 4607182418800017408) fun q => bindF (fbF .quo p q) fun f => odd R f fun o => bindF (fbF .add l o) fun x => bindF (fbF .add h x) k
          forceB (ltF m 4604544271217802189) fun t => match t with
          | true => bindF (fbF .mul 4611686018427387904 m) fun m => fi R (IntKind.i64.wrap (e - 1)) fun e => rest m e
          | false => rest m e
def signB (fi : Fi) : KFB := fun R x k => fi R (IntKind.i64.wrap (x : Int)) fun n => forceB (decide (n < 0)) fun t => k t
def minusB (sg : KFB) : KFB := fun R x k => forceB (eqF x x) fun t => match t with
  | true => sg R x fun t => forceB t fun t => k t
  | false => k false
def signedB (mi : KFB) (ab : KFF) : KFFF := fun R a b k => mi R b fun t => forceB t fun t => match t with
  | true => ab R a fun x => forceN (Op.negFloat .f64 x) k
  | false => ab R a k
def angleB (ab : KFF) (infP : KFB) (core : KFF) (mi : KFB) (sd : KFFF) : KFFF := fun R y x k => forceB (neF y y) fun t => match t with
  | true => none
  | false => forceB (neF x x) fun t => match t with
    | true => none
    | false => ab R y fun p => ab R x fun q =>
      let rest : Nat → Option R := fun b => mi R x fun t => forceB t fun t => match t with
        | true => bindF (fbF .sub b 4368955796522032135) fun c => bindF (fbF .sub 4614256656552045848 c) fun b => sd R b y k
        | false => sd R b y k
      let three : Option R := forceB (leF p q) fun t => match t with
        | true => bindF (fbF .quo p q) fun t => core R t rest
        | false => bindF (fbF .quo q p) fun t => core R t fun c => bindF (fbF .sub c 4364452196894661639) fun d => bindF (fbF .sub 4609753056924675352 d) rest
      forceB (eqF p 0) fun t => match t with
      | true => rest 0
      | false => forceB (eqF p q) fun t => match t with
        | true => infP R p fun t => forceB t fun t => match t with
          | true => rest 4605249457297304856
          | false => three
        | false => three
def powLogB (len : KCF) (lg : KFF) (an : KFFF) : KCC := fun R a b k => len R a b fun l => lg R l fun x => an R b a fun y => k x y
end Go.Vm
namespace Go.Vm
open Ieee
set_option linter.unusedVariables false
set_option linter.unusedSimpArgs false

/-! ### Maps -/
structure Mp where
  a1 : Nat
  a2 : Nat
  b1 : Nat
  b2 : Nat
  c1 : Nat
  c2 : Nat
  d1 : Nat
  d2 : Nat
  p : Nat

def oneM {R : Type} (v : Value) (k : Int → Mp → Option R) : Option R := match v with
  | .agg ⟨[.int .u8 i, .complex .f64 a1 a2, .complex .f64 b1 b2, .complex .f64 c1 c2, .complex .f64 d1 d2, .float .f64 p]⟩ => k i ⟨a1, a2, b1, b2, c1, c2, d1, d2, p⟩
  | _ => none
/-! ### Whole numbers -/
def ofK {R : Type} (x y : Int) (k : Nat → Nat → Option R) : Option R := forceN (floatOfInt .f64 x) fun a => forceN (floatOfInt .f64 y) fun b => k a b
end Go.Vm
namespace Go.Vm
open Ieee
set_option linter.unusedVariables false
set_option linter.unusedSimpArgs false

/-! ### Three places -/
/-- an error's number, told from a list -/
def errIn {R : Type} : List Int → Int → (Int → Option R) → Option R
  | [], _, _ => none
  | c :: cs, e, ke => forceB (e == c) fun t => match t with
    | true => ke c
    | false => errIn cs e ke
def zOk {R : Type} (k : Value → Option R) (x y : Nat) : Option R := k (.tuple ⟨[.complex .f64 x y, .int .i64 0]⟩)

abbrev KMZ := ∀ R : Type, Mp → Nat → Nat → (Int → Option R) → (Nat → Nat → Option R) → Option R
/-! ### Three places of whole parts -/
end Go.Vm
namespace Go.Vm
open Ieee
set_option linter.unusedVariables false
set_option linter.unusedSimpArgs false

/-! ### Roots, Joukowski's map, the way back -/
def sInf3 (g0 gp gm : KFB) : Sum := fun R args k => match args with
  | [.float .f64 a, .int .i64 s] => bif s == 0 then g0 R a fun t => forceB t fun t => k (.bool t) else bif s == 1 then gp R a fun t => forceB t fun t => k (.bool t) else
      bif s == -1 then gm R a fun t => forceB t fun t => k (.bool t) else none
  | _ => none
def isInfPK : KFB := fun R a k => forceB (gtF a 9218868437227405311) fun t => k t
def isInfMK : KFB := fun R a k => forceN (Op.negFloat .f64 a) fun x => forceB (gtF x 9218868437227405311) fun t => k t
abbrev KCFC := ∀ R : Type, Nat → Nat → Nat → (Nat → Nat → Option R) → Option R
def sCFC (g : KCFC) : Sum := fun R args k => match args with
  | [.complex .f64 a b, .float .f64 c] => g R a b c fun x y => k (.complex .f64 x y)
  | _ => none
def sclK : KCFC := fun R a b c k => bindF (fbF .mul a c) fun x => bindF (fbF .mul b c) fun y => k x y

def zErrL {R : Type} (L : List Int) (k : Value → Option R) (e : Int) : Option R := errIn L e fun e => k (.tuple ⟨[.complex .f64 0 0, .int .i64 e]⟩)
end Go.Vm
namespace Go.Vm
set_option linter.unusedVariables false

/-! ### Elements -/
def el (kind : Int) (a1 a2 s1 s2 p : Nat) : Value := .agg ⟨[.int .u8 kind, .complex .f64 a1 a2, .complex .f64 s1 s2, .float .f64 p]⟩
abbrev KEI := ∀ R : Type, Int → Nat → Nat → Nat → Nat → Nat → (Int → Option R) → Option R
def sEI (g : KEI) : Sum := fun R args k => match args with
  | [.agg ⟨[.int .u8 kind, .complex .f64 a1 a2, .complex .f64 s1 s2, .float .f64 p]⟩] => g R kind a1 a2 s1 s2 p fun e => k (.int .i64 e)
  | _ => none

/-- Check -/
def checkB (re : KCB) (wi : KFFB) (no : KCB) (wh : KFB) : KEI := fun R kind a1 a2 s1 s2 p k =>
  forceB (decide (kind < 1)) fun t => match t with
  | true => k 150
  | false => forceB (decide (kind > 4)) fun t => match t with
    | true => k 150
    | false => re R a1 a2 fun t => forceB t fun t => match t with
      | false => k 5
      | true => re R s1 s2 fun t => forceB t fun t => match t with
        | false => k 5
        | true => wi R p 4787326403894837248 fun t => forceB t fun t => match t with
          | false => k 5
          | true => forceB (kind == 1) fun t => match t with
            | true => no R a1 a2 fun t => forceB t fun t => match t with
              | true => forceB (eqF p 0) fun t => match t with | true => k 0 | false => k 150
              | false => k 150
            | false => forceB (kind == 2) fun t => match t with
              | true => forceB (eqF p 0) fun t => match t with | true => k 0 | false => k 150
              | false => forceB (kind == 3) fun t => match t with
                | true => wh R p fun t => forceB t fun t => match t with
                  | true => forceB (geF p 4607182418800017408) fun t => match t with
                    | true => forceB (leF p 4620693217682128896) fun t => match t with | true => k 0 | false => k 150
                    | false => k 150
                  | false => k 150
                | false => forceB (kind == 4) fun t => match t with
                  | true => forceB (geF p 4598175219545276416) fun t => match t with
                    | true => forceB (leF p 4616189618054758400) fun t => match t with | true => k 0 | false => k 150
                    | false => k 150
                  | false => k 150

/-- a value, if it is finite -/
def toldE {R : Type} (fin : KCB) (er : Int → Option R) (k : Nat → Nat → Option R) (x y : Nat) : Option R :=
  fin R x y fun t => forceB t fun t => match t with | true => k x y | false => er 6

/-- Speed, of a stream -/
def spS (chk : KEI) (re no fin : KCB) (sub : KCCC) : ∀ R : Type, Nat → Nat → Nat → Nat → Nat → Nat → (Int → Option R) → (Nat → Nat → Option R) → Option R := fun R a1 a2 s1 s2 z1 z2 er k =>
  chk R 1 a1 a2 s1 s2 0 fun e => match decide (e = 0) with
    | false => er e
    | true => re R z1 z2 fun t => forceB t fun t => match t with
      | false => er 5
      | true => sub R z1 z2 a1 a2 fun d1 d2 => no R d1 d2 fun t => forceB t fun t => match t with
        | true => toldE fin er k s1 s2
        | false => toldE fin er k s1 s2
/-- of a source -/
def spO (chk : KEI) (re no fin : KCB) (sub div : KCCC) (scl : KCFC) : ∀ R : Type, Nat → Nat → Nat → Nat → Nat → Nat → (Int → Option R) → (Nat → Nat → Option R) → Option R := fun R a1 a2 s1 s2 z1 z2 er k =>
  chk R 2 a1 a2 s1 s2 0 fun e => match decide (e = 0) with
    | false => er e
    | true => re R z1 z2 fun t => forceB t fun t => match t with
      | false => er 5
      | true => scl R s1 s2 4594902181429758083 fun c1 c2 => sub R z1 z2 a1 a2 fun d1 d2 => no R d1 d2 fun t => forceB t fun t => match t with
        | true => er 6
        | false => div R c1 c2 d1 d2 (toldE fin er k)
/-- of a doublet -/
def spD (chk : KEI) (re no fin : KCB) (sub div mul : KCCC) (scl : KCFC) : ∀ R : Type, Nat → Nat → Nat → Nat → Nat → Nat → (Int → Option R) → (Nat → Nat → Option R) → Option R := fun R a1 a2 s1 s2 z1 z2 er k =>
  chk R 3 a1 a2 s1 s2 4607182418800017408 fun e => match decide (e = 0) with
    | false => er e
    | true => re R z1 z2 fun t => forceB t fun t => match t with
      | false => er 5
      | true => sub R z1 z2 a1 a2 fun d1 d2 => no R d1 d2 fun t => forceB t fun t => match t with
        | true => er 6
        | false => scl R s1 s2 13830554455654793216 fun t1 t2 => mul R d1 d2 d1 d2 fun q1 q2 => div R t1 t2 q1 q2 (toldE fin er k)

def vErr {R : Type} (k : Value → Option R) (e : Int) : Option R := k (.tuple ⟨[.complex .f64 0 0, .int .i64 e]⟩)
def sSp (f1 f2 f3 : ∀ R : Type, Nat → Nat → Nat → Nat → Nat → Nat → (Int → Option R) → (Nat → Nat → Option R) → Option R) : Sum := fun R args k => match args with
  | [.agg ⟨[.int .u8 kind, .complex .f64 a1 a2, .complex .f64 s1 s2, .float .f64 p]⟩, .complex .f64 z1 z2] =>
    bif kind == 1 && Nat.beq p 0 then f1 R a1 a2 s1 s2 z1 z2 (vErr k) (zOk k)
    else bif kind == 2 && Nat.beq p 0 then f2 R a1 a2 s1 s2 z1 z2 (vErr k) (zOk k)
    else bif kind == 3 && Nat.beq p 4607182418800017408 then f3 R a1 a2 s1 s2 z1 z2 (vErr k) (zOk k)
    else none
  | _ => none

/-- whole, of 1 and of nought -/
def sWh1 : Sum := fun R args k => match args with
  | [.float .f64 p] => bif Nat.beq p 4607182418800017408 then k (.bool true) else none
  | _ => none
def wh1 : KFB := fun R p k => bif Nat.beq p 4607182418800017408 then k true else none
/-- Whole, of the power 2 -/
def sW2 (mul : KCCC) : Sum := fun R args k => match args with
  | [.complex .f64 a b, .int .i64 n] => bif n == 2 then mul R a b a b fun x y => k (.complex .f64 x y) else none
  | _ => none

/-! ### Sines and cosines -/
abbrev KFF2 := ∀ R : Type, Nat → (Nat → Nat → Option R) → Option R
def sFF2 (g : KFF2) : Sum := fun R args k => match args with
  | [.float .f64 y] => g R y fun s c => k (.tuple ⟨[.float .f64 s, .float .f64 c]⟩)
  | _ => none
def stepsR {R : Type} (z : Nat) : List (Nat × Nat) → Nat → Nat → (Nat → Nat → Option R) → Option R
  | [], s, c, k => k s c
  | (a, b) :: r, s, c, k => bindF (fbF .quo z a) fun x => bindF (fbF .mul x s) fun x => bindF (fbF .sub 4607182418800017408 x) fun s =>
      bindF (fbF .quo z b) fun x => bindF (fbF .mul x c) fun x => bindF (fbF .sub 4607182418800017408 x) fun c => stepsR z r s c k
def stepsL : List (Nat × Nat) := [(4644724143818801152, 4644090825121202176), (4643492690795692032, 4642648265865560064), (4641592734702895104, 4640607572284407808), (4639692778610098176, 4638848353679966208), (4637440978796412928, 4636033603912859648), (4634766966517661696, 4633078116657397760), (4631107791820423168, 4629137466983448576), (4626322717216342016, 4622945017495814144), (4618441417868443648, 4611686018427387904)]
def stepsK : KFF2 := fun R y k => bindF (fbF .mul y y) fun z => stepsR z stepsL 4607182418800017408 4607182418800017408 fun s c => bindF (fbF .mul y s) fun s => k s c

/-! ### Functions without a body -/
def xFrom : Sum := fun R args k => match args with
  | [.int .u64 n] => forceN n.toNat fun x => k (.float .f64 x)
  | _ => none
def xBits : Sum := fun R args k => match args with
  | [.float .f64 b] => fiReal R (b : Int) fun n => k (.int .u64 n)
  | _ => none
def xWhole (way : Ieee.Toward) : Sum := fun R args k => match args with
  | [.float .f64 x] => match Ieee.double.read x with
    | .nan _ _ => none
    | d => forceN (Ieee.double.write (d.integral way)) fun y => k (.float .f64 y)
  | _ => none
end Go.Vm
namespace Go.Vm
open Ieee
set_option linter.unusedVariables false
set_option linter.unusedSimpArgs false

/-! ### Quotients -/
theorem abs_zero : ((0 : Rat)).abs = 0 := by rw [Rat.abs_of_nonneg (by decide)]
theorem abs_add_le (x y : Rat) : (x + y).abs ≤ x.abs + y.abs := by
  rw [abs_le_iff]
  have h1 := (abs_le_iff (x := x) (y := x.abs)).1 Rat.le_refl
  have h2 := (abs_le_iff (x := y) (y := y.abs)).1 Rat.le_refl
  grind
theorem abs_neg (x : Rat) : (-x).abs = x.abs := by
  have := abs_mul (-1) x
  rw [show (-1 : Rat) * x = -x by grind] at this
  rw [this]
  have : ((-1 : Rat)).abs = 1 := by rw [Rat.abs_of_nonpos (by decide)]; rfl
  rw [this]; grind
theorem abs_sub_comm (x y : Rat) : (x - y).abs = (y - x).abs := by rw [← abs_neg (x - y)]; congr 1; grind

theorem p2_one : (2 : Rat) ^ (1 : Int) = 2 := by simp
theorem p2_succ (q : Int) : (2 : Rat) ^ (q + 1) = 2 * (2 : Rat) ^ q := by rw [p2_add, p2_one]; grind
theorem p2_half (q : Int) : (2 : Rat) ^ q = 2 * (2 : Rat) ^ (q - 1) := by rw [← p2_succ]; congr 1; omega

theorem tri {x y z : Rat} : (x - z).abs ≤ (x - y).abs + (y - z).abs := by
  have := abs_add_le (x - y) (y - z)
  rw [show x - y + (y - z) = x - z by grind] at this
  exact this

/-! ### Roots -/
theorem rootFrom_spec (n : Nat) : ∀ (todo root : Nat), root * root ≤ n → n < (root + 2 ^ todo) * (root + 2 ^ todo) →
    Datum.rootFrom n todo root * Datum.rootFrom n todo root ≤ n ∧ n < (Datum.rootFrom n todo root + 1) * (Datum.rootFrom n todo root + 1)
  | 0, root, h1, h2 => by
    unfold Datum.rootFrom
    exact ⟨h1, by simpa using h2⟩
  | todo + 1, root, h1, h2 => by
    unfold Datum.rootFrom
    simp only [Nat.shiftLeft_eq, Nat.one_mul]
    split
    · rename_i h
      refine rootFrom_spec n todo _ h ?_
      have : root + 2 ^ todo + 2 ^ todo = root + 2 ^ (todo + 1) := by rw [Nat.pow_succ]; omega
      rw [this]; exact h2
    · rename_i h
      exact rootFrom_spec n todo _ h1 (by omega)

theorem root_val {m : Nat} {i : Int} (hm : m ≠ 0) : ∃ k e, Datum.root 54 (.number false m i) = some (.number false k e) ∧
    (dv false k e * dv false k e - dv false m i).abs ≤ dv false m i * (2 : Rat) ^ (-53 : Int) ∧ 0 < dv false k e := by
  refine ⟨_, _, by unfold Datum.root; simp only [hm, if_false, Bool.false_eq_true]; rfl, ?_⟩
  generalize hmore : 2 * 54 - m.log2 = more
  have hpar : (i - ((more + ((i - (more : Int)) % 2).toNat : Nat) : Int)) % 2 = 0 := by omega
  generalize hm2 : more + ((i - (more : Int)) % 2).toNat = mo at *
  have hmo : 108 - m.log2 ≤ mo := by omega
  generalize hn : m <<< mo = n
  have hnm : n = m * 2 ^ mo := by rw [← hn, Nat.shiftLeft_eq]
  have hL1 : 2 ^ m.log2 ≤ m := Nat.log2_self_le hm
  have hn108 : 2 ^ 54 * 2 ^ 54 ≤ n := by
    rw [hnm, ← Nat.pow_add]
    have h1 := Nat.mul_le_mul_right (2 ^ mo) hL1
    rw [← Nat.pow_add] at h1
    have h2 : 2 ^ (54 + 54) ≤ 2 ^ (m.log2 + mo) := Nat.pow_le_pow_right (by decide) (by omega)
    omega
  obtain ⟨r1, r2⟩ := rootFrom_spec n (n.log2 / 2 + 1) 0 (by omega) (by
    have h1 : n < 2 ^ (n.log2 + 1) := Nat.lt_log2_self
    have h2 : 2 ^ (n.log2 + 1) ≤ 2 ^ ((n.log2 / 2 + 1) + (n.log2 / 2 + 1)) := Nat.pow_le_pow_right (by decide) (by omega)
    rw [Nat.pow_add 2 (n.log2 / 2 + 1) (n.log2 / 2 + 1)] at h2
    simp only [Nat.zero_add]
    omega)
  generalize Datum.rootFrom n (n.log2 / 2 + 1) 0 = w at *
  have hw : 2 ^ 54 ≤ w := by
    refine Nat.not_lt.1 fun hlt => ?_
    have := Nat.mul_le_mul (show w + 1 ≤ 2 ^ 54 by omega) (show w + 1 ≤ 2 ^ 54 by omega)
    omega
  generalize hE : (i - (mo : Int)) / 2 = E at *
  have hiE : i = (mo : Int) + (E + E) := by omega
  have hu := p2_pos E
  have hx : dv false m i = (n : Rat) * ((2 : Rat) ^ E * (2 : Rat) ^ E) := by
    unfold dv sg
    rw [hiE, p2_add, p2_add, p2_nat, hnm]
    push_cast
    simp
    grind
  have hv : dv false (2 * w + (w * w != n).toNat) (E - 1) = ((w : Rat) + (if w * w = n then 0 else 1 / 2)) * (2 : Rat) ^ E := by
    unfold dv sg
    rw [p2_half E]
    by_cases h0 : w * w = n
    · have : (w * w != n) = false := by simp [h0]
      simp only [this, Bool.toNat_false, h0, if_true]
      push_cast
      simp
      grind
    · have : (w * w != n) = true := by simp [h0]
      simp only [this, Bool.toNat_true, h0, if_false]
      push_cast
      simp
      grind
  rw [hx, hv]
  have hw0 : (0 : Rat) < (w : Rat) := by have : 0 < w := by omega
                                         exact_mod_cast this
  generalize (2 : Rat) ^ E = u at *
  constructor
  · by_cases h0 : w * w = n
    · simp only [h0, if_true]
      have : ((n : Nat) : Rat) = (w : Rat) * w := by rw [← h0]; push_cast; rfl
      have e : (((w : Rat) + 0) * u * (((w : Rat) + 0) * u) - (n : Rat) * (u * u)) = 0 := by rw [this]; grind
      rw [e, abs_zero]
      have h1 : (0 : Rat) ≤ (n : Rat) := by exact_mod_cast Nat.zero_le _
      exact Rat.mul_nonneg (Rat.mul_nonneg h1 (Rat.mul_nonneg (Rat.le_of_lt hu) (Rat.le_of_lt hu))) (Rat.le_of_lt (p2_pos _))
    · simp only [h0, if_false]
      have e : (((w : Rat) + 1 / 2) * u * (((w : Rat) + 1 / 2) * u) - (n : Rat) * (u * u)) = ((w : Rat) * w + w + 1 / 4 - n) * (u * u) := by grind
      rw [e, abs_mul, Rat.abs_of_nonneg (Rat.mul_nonneg (Rat.le_of_lt hu) (Rat.le_of_lt hu))]
      have n1 : w * w + 1 ≤ n := by omega
      have n2 : n ≤ w * w + w + w := by
        have : (w + 1) * (w + 1) = w * w + w + w + 1 := by grind
        omega
      have q1 : (w : Rat) * w + 1 ≤ n := by exact_mod_cast n1
      have q2 : (n : Rat) ≤ (w : Rat) * w + w + w := by exact_mod_cast n2
      have q3 : ((w : Rat) * w + w + 1 / 4 - n).abs ≤ w := by rw [abs_le_iff]; constructor <;> grind
      have q4 : (w : Rat) ≤ n * (2 : Rat) ^ (-53 : Int) := by
        have f1 : ((2 ^ 53 : Nat) : Rat) ≤ (w : Rat) := nat_cast_le (by omega)
        have f2 : (2 : Rat) ^ (53 : Int) = ((2 ^ 53 : Nat) : Rat) := p2_nat 53
        have f3 : (2 : Rat) ^ (53 : Int) * (2 : Rat) ^ (-53 : Int) = 1 := by rw [← p2_add, show (53 + -53 : Int) = 0 by decide, Rat.zpow_zero]
        have f4 := Rat.mul_le_mul_of_nonneg_left f1 (Rat.le_of_lt hw0)
        rw [← f2] at f4
        have f5 := Rat.mul_le_mul_of_nonneg_right (Rat.le_trans f4 (show (w : Rat) * w ≤ n by grind)) (Rat.le_of_lt (p2_pos (-53)))
        have f6 : (w : Rat) * (2 : Rat) ^ (53 : Int) * (2 : Rat) ^ (-53 : Int) = w := by rw [Rat.mul_assoc, f3]; grind
        rwa [f6] at f5
      have := Rat.mul_le_mul_of_nonneg_right (Rat.le_trans q3 q4) (Rat.mul_nonneg (Rat.le_of_lt hu) (Rat.le_of_lt hu))
      grind
  · refine Rat.mul_pos ?_ hu
    split <;> grind

theorem sqrt_is {a : Nat} {x : Rat} (ha : Is a x) (hx : 0 < x) (hlt : x < (2 : Rat) ^ (1000 : Int)) (hgt : (2 : Rat) ^ (-1000 : Int) < x) :
    ∃ r z, double.sqrt a = some r ∧ Is r z ∧ 0 < z ∧ (z * z - x).abs ≤ x * (2 : Rat) ^ (-51 : Int) := by
  obtain ⟨_, s, m, i, h1, h2⟩ := ha
  have hm : m ≠ 0 := by rintro rfl; rw [dv_zero] at h2; grind
  have hs : s = false := by
    cases s
    · rfl
    · exfalso
      have h3 : (0 : Rat) ≤ (m : Rat) * (2 : Rat) ^ i := Rat.mul_nonneg (by exact_mod_cast Nat.zero_le _) (Rat.le_of_lt (p2_pos i))
      unfold dv sg at h2
      simp only [if_true] at h2
      grind
  subst hs
  obtain ⟨k, e, h3, h4, h5⟩ := @root_val m i hm
  rw [h2] at h4
  generalize hd : dv false k e = v at *
  have e53 : (2 : Rat) ^ (-53 : Int) ≤ 1 / 100 := by
    have h6 := p2_le (show (-53 : Int) ≤ -7 by decide)
    have h7 : (2 : Rat) ^ (-7 : Int) * (2 : Rat) ^ (7 : Int) = 1 := by rw [← p2_add, show (-7 + 7 : Int) = 0 by decide, Rat.zpow_zero]
    have h8 : (2 : Rat) ^ (7 : Int) = 128 := by rw [show (7 : Int) = ((7 : Nat) : Int) by rfl, p2_nat]; rfl
    rw [h8] at h7
    grind
  have e51 : (2 : Rat) ^ (-51 : Int) = 4 * (2 : Rat) ^ (-53 : Int) := by
    have h6 := p2_half (-51)
    have h7 := p2_half (-52)
    rw [show (-51 - 1 : Int) = -52 by decide] at h6
    rw [show (-52 - 1 : Int) = -53 by decide] at h7
    grind
  have p53 := p2_pos (-53)
  have hv2 := abs_le_iff.1 h4
  have hxe := Rat.mul_le_mul_of_nonneg_left e53 (Rat.le_of_lt hx)
  have hvlt : v < (2 : Rat) ^ (1023 : Int) := by
    refine Rat.not_le.1 fun hle => ?_
    have h6 : (2 : Rat) ^ (1023 : Int) * (2 : Rat) ^ (1023 : Int) ≤ v * v :=
      Rat.le_trans (Rat.mul_le_mul_of_nonneg_left hle (Rat.le_of_lt (p2_pos 1023))) (Rat.mul_le_mul_of_nonneg_right hle (Rat.le_of_lt h5))
    rw [← p2_add] at h6
    have h7 := p2_le (show (1001 : Int) ≤ 1023 + 1023 by decide)
    have h8 := p2_half 1001
    rw [show (1001 - 1 : Int) = 1000 by decide] at h8
    grind
  have hvgt : (2 : Rat) ^ (-1000 : Int) ≤ v := by
    refine Rat.not_lt.1 fun hl => ?_
    have h6 : v * v ≤ (2 : Rat) ^ (-1000 : Int) * (2 : Rat) ^ (-1000 : Int) :=
      Rat.le_trans (Rat.mul_le_mul_of_nonneg_left (Rat.le_of_lt hl) (Rat.le_of_lt h5)) (Rat.mul_le_mul_of_nonneg_right (Rat.le_of_lt hl) (Rat.le_of_lt (p2_pos (-1000))))
    rw [← p2_add] at h6
    have h7 := p2_le (show (-1000 + -1000 : Int) ≤ -1001 by decide)
    have h8 := p2_half (-1000)
    rw [show (-1000 - 1 : Int) = -1001 by decide] at h8
    grind
  have hvabs : v.abs = v := Rat.abs_of_nonneg (Rat.le_of_lt h5)
  obtain ⟨z, g1, g2⟩ := number_is (s := false) (m := k) (i := e) (by rw [hd, hvabs]; exact hvlt)
  rw [hd] at g2
  have hD : (z - v).abs ≤ v * (2 : Rat) ^ (-53 : Int) := by
    rcases g2.near with h | h
    · rwa [hvabs] at h
    · have h6 := Rat.mul_le_mul_of_nonneg_right hvgt (Rat.le_of_lt p53)
      rw [← p2_add] at h6
      have h7 := p2_le (show (-1075 : Int) ≤ -1000 + -53 by decide)
      grind
  refine ⟨_, z, ?_, g1, ?_, ?_⟩
  · show Format.sqrt double a = _
    unfold Format.sqrt
    rw [h1]
    have : double.fractionBits + 2 = 54 := by decide
    rw [this, h3]
    rfl
  · have h6 := abs_le_iff.1 hD
    have h7 := Rat.mul_le_mul_of_nonneg_left e53 (Rat.le_of_lt h5)
    grind
  · have h6 := abs_le_iff.1 hD
    generalize (2 : Rat) ^ (-53 : Int) = ep at *
    rw [e51]
    generalize hDD : z - v = D at *
    have hz : z = v + D := by grind
    have h7 := Rat.mul_le_mul_of_nonneg_left h6.1 (Rat.le_of_lt h5)
    have h8 := Rat.mul_le_mul_of_nonneg_left h6.2 (Rat.le_of_lt h5)
    have h9 := Rat.mul_nonneg (show 0 ≤ v * ep - D by grind) (show 0 ≤ v * ep + D by grind)
    have h10 := Rat.mul_le_mul_of_nonneg_left e53 (Rat.mul_nonneg (Rat.mul_nonneg (Rat.le_of_lt h5) (Rat.le_of_lt h5)) (Rat.le_of_lt p53))
    have h11 : 0 ≤ D * D := by
      rcases (Rat.le_total : 0 ≤ D ∨ D ≤ 0) with h | h
      · exact Rat.mul_nonneg h h
      · have := Rat.mul_nonneg (show 0 ≤ -D by grind) (show 0 ≤ -D by grind); grind
    have h12 : v * v ≤ x + x * ep := by grind
    have h13 := Rat.mul_le_mul_of_nonneg_right h12 (Rat.le_of_lt p53)
    have h14 := Rat.mul_le_mul_of_nonneg_left e53 (Rat.mul_nonneg (Rat.le_of_lt hx) (Rat.le_of_lt p53))
    rw [abs_le_iff, hz]
    constructor <;> grind
end Go.Vm
namespace Go.Vm
open Ieee
set_option linter.unusedVariables false
set_option linter.unusedSimpArgs false

/-! ### Exact whole numbers -/
theorem bindF_eq {R : Type} {o : Option Nat} {n : Nat} {k : Nat → Option R} (h : o = some n) : bindF o k = k n := by subst h; simp [bindF, forceN_eq]

theorem int_abs_lt {n : Int} (h : n.natAbs < 2 ^ 53) : ((n : Rat)).abs < (2 : Rat) ^ (1023 : Int) := by
  have h1 : ((n : Rat)).abs = ((n.natAbs : Nat) : Rat) := by
    have := dv_abs (decide (n < 0)) n.natAbs 0
    rw [int_dv n (decide (n < 0)) 0 fun _ => rfl] at this
    simpa using this
  rw [h1]
  have h2 : ((n.natAbs : Nat) : Rat) < ((2 ^ 53 : Nat) : Rat) := nat_cast_lt h
  have h3 : (2 : Rat) ^ (53 : Int) = ((2 ^ 53 : Nat) : Rat) := p2_nat 53
  have h4 : (2 : Rat) ^ (53 : Int) ≤ (2 : Rat) ^ (1023 : Int) := p2_le (by decide)
  grind

theorem rnd_int {n : Int} {z : Rat} (h : n.natAbs < 2 ^ 53) (hr : Rnd (n : Rat) z) : z = n := hr.rep n 0 h (by decide) (by simp)

theorem add_int {a b : Nat} {x y : Int} (ha : Is a x) (hb : Is b y) (h : (x + y).natAbs < 2 ^ 53) : ∃ r, fbF .add a b = some r ∧ Is r ((x + y : Int) : Rat) := by
  have e : ((x + y : Int) : Rat) = (x : Rat) + y := by push_cast; rfl
  obtain ⟨r, z, h1, h2, h3⟩ := add_is ha hb (by rw [← e]; exact int_abs_lt h)
  rw [← e] at h3
  rw [rnd_int h h3] at h2
  exact ⟨r, h1, h2⟩
theorem sub_int {a b : Nat} {x y : Int} (ha : Is a x) (hb : Is b y) (h : (x - y).natAbs < 2 ^ 53) : ∃ r, fbF .sub a b = some r ∧ Is r ((x - y : Int) : Rat) := by
  have e : ((x - y : Int) : Rat) = (x : Rat) - y := by push_cast; rfl
  obtain ⟨r, z, h1, h2, h3⟩ := sub_is ha hb (by rw [← e]; exact int_abs_lt h)
  rw [← e] at h3
  rw [rnd_int h h3] at h2
  exact ⟨r, h1, h2⟩
theorem is_zero : Is 0 ((0 : Int) : Rat) := ⟨by decide, false, 0, -1074, by decide, dv_zero _ _⟩

theorem eqF_is {a b : Nat} {x y : Rat} (ha : Is a x) (hb : Is b y) : eqF a b = decide (x = y) := by
  unfold eqF
  rw [order_is ha hb]
  by_cases h1 : x < y
  · have : ¬ x = y := by grind
    simp [h1, this]
  · by_cases h2 : x = y
    · subst h2
      simp [h1]
    · simp [h1, h2]
theorem neF_is {a b : Nat} {x y : Rat} (ha : Is a x) (hb : Is b y) : neF a b = !decide (x = y) := by
  rw [← eqF_is ha hb]; unfold neF eqF; rfl
theorem leF_is {a b : Nat} {x y : Rat} (ha : Is a x) (hb : Is b y) : leF a b = decide (x ≤ y) := by
  unfold leF
  rw [order_is ha hb]
  by_cases h1 : x < y
  · have : x ≤ y := by grind
    simp [h1, this]
  · by_cases h2 : x = y
    · subst h2
      simp [h1]
    · have : ¬ x ≤ y := by grind
      simp [h1, h2, this]

theorem int_eq_iff {x y : Int} : ((x : Rat) = (y : Rat)) ↔ x = y := by
  constructor
  · intro h; exact_mod_cast h
  · rintro rfl; rfl

/-- A complex number of whole parts. -/
def IsC (a b : Nat) (x y : Int) : Prop := Is a x ∧ Is b y

theorem subK_int {a b c d : Nat} {x y u v : Int} (h1 : IsC a b x y) (h2 : IsC c d u v) (b1 : (x - u).natAbs < 2 ^ 53) (b2 : (y - v).natAbs < 2 ^ 53) :
    ∃ p q, IsC p q (x - u) (y - v) ∧ ∀ (R : Type) (k : Nat → Nat → Option R), subK R a b c d k = k p q := by
  obtain ⟨p, e1, g1⟩ := sub_int h1.1 h2.1 b1
  obtain ⟨q, e2, g2⟩ := sub_int h1.2 h2.2 b2
  exact ⟨p, q, ⟨g1, g2⟩, fun R k => by unfold subK; rw [bindF_eq e1, bindF_eq e2]⟩

theorem noughtK_int {a b : Nat} {x y : Int} (h : IsC a b x y) {R : Type} (k : Bool → Option R) : noughtK R a b k = k (decide (x = 0 ∧ y = 0)) := by
  unfold noughtK
  rw [forceB_eq, eqF_is h.1 is_zero]
  by_cases h1 : x = 0
  · subst h1
    simp only [decide_true]
    rw [forceB_eq, eqF_is h.2 is_zero]
    by_cases h2 : y = 0
    · subst h2; simp
    · simp [h2]
  · have : ¬ ((x : Rat) = ((0 : Int) : Rat)) := fun e => h1 (int_eq_iff.1 e)
    simp [h1]

def LikeK : KCCB := LikeB likeK
theorem absW_eq (a : Nat) : absW a = a % 2 ^ 63 := by
  unfold absW
  have h1 : ((BitVec.ofInt 64 a &&& ~~~(BitVec.ofInt 64 9223372036854775808)).toNat : Nat) = a % 2 ^ 63 := by
    have e1 : BitVec.ofInt 64 a = BitVec.ofNat 64 a := by simp
    have e2 : (~~~(BitVec.ofInt 64 9223372036854775808)) = BitVec.ofNat 64 (2 ^ 63 - 1) := by decide
    rw [e1, e2, BitVec.toNat_and, BitVec.toNat_ofNat, BitVec.toNat_ofNat]
    rw [show (2 ^ 63 - 1) % 2 ^ 64 = 2 ^ 63 - 1 by decide, Nat.and_two_pow_sub_one_eq_mod]
    omega
  rw [h1]
  have h2 : a % 2 ^ 63 < 2 ^ 63 := Nat.mod_lt _ (by decide)
  have h3 : IntKind.u64.wrap ((a % 2 ^ 63 : Nat) : Int) = ((a % 2 ^ 63 : Nat) : Int) := by
    unfold IntKind.wrap
    simp [IntKind.bits, IntKind.signed]
    omega
  rw [h3]
  rfl

theorem abs_is {a : Nat} {x : Rat} (h : Is a x) : Is (absW a) x.abs := by
  obtain ⟨hw, s, m, i, h1, rfl⟩ := h
  refine ⟨by rw [absW_eq]; omega, false, m, i, ?_, by rw [dv_abs]; unfold dv sg; simp⟩
  rw [absW_eq]
  have e1 : double.signWeight = 2 ^ 63 := by decide
  unfold Format.read at *
  simp only [e1] at h1 ⊢
  rw [Nat.mod_mod]
  have : (a % 2 ^ 63 / 2 ^ 63 % 2 == 1) = false := by
    rw [Nat.div_eq_of_lt (Nat.mod_lt _ (by decide))]; rfl
  rw [this]
  split at h1
  · rename_i hc
    simp only [hc, if_true]
    injection h1 with g1 g2 g3
    rw [g2, g3]
  · split at h1
    · rename_i hc1 hc
      simp only [hc, if_true, hc1, if_false]
      injection h1 with g1 g2 g3
      rw [g2, g3]
    · split at h1 <;> cases h1

theorem is_p40 : Is 4787326403894837248 ((2 ^ 40 : Int) : Rat) := by
  refine ⟨by decide, false, 2 ^ 52, -12, by decide, ?_⟩
  have h1 : ((2 ^ 52 : Nat) : Rat) = (2 : Rat) ^ ((52 : Nat) : Int) := (p2_nat 52).symm
  have h2 : ((2 ^ 40 : Int) : Rat) = (2 : Rat) ^ ((40 : Nat) : Int) := by
    rw [p2_nat]
    exact congrArg (fun z : Int => (z : Rat)) (by decide : (2 ^ 40 : Int) = ((2 ^ 40 : Nat) : Int))
  unfold dv sg
  rw [h1, h2, ← p2_add, if_neg (by decide), Rat.one_mul]
  rfl

theorem int_abs_le {n : Int} {N : Nat} (h : n.natAbs ≤ N) : ((n : Rat)).abs ≤ ((N : Int) : Rat) := by
  rw [abs_le_iff]
  constructor
  · have : (-(N : Int)) ≤ n := by omega
    have h2 : ((-(N : Int) : Int) : Rat) ≤ (n : Rat) := by exact_mod_cast this
    push_cast at h2 ⊢
    exact h2
  · have : n ≤ (N : Int) := by omega
    exact_mod_cast this

def withinK : KFFB := withinB absK
def WithinK : KCFB := WithinB withinK
def placeK : KCB := placeB WithinK
theorem withinK_int {a : Nat} {x : Int} (h : Is a x) (hb : x.natAbs ≤ 2 ^ 40) {R : Type} (k : Bool → Option R) : withinK R a 4787326403894837248 k = k true := by
  unfold withinK withinB absK
  show forceB (leF (absW a) 4787326403894837248) (fun t => k t) = k true
  rw [forceB_eq, leF_is (abs_is h) is_p40]
  have : ((x : Rat)).abs ≤ ((2 ^ 40 : Int) : Rat) := int_abs_le (N := 2 ^ 40) hb
  simp only [this, decide_true]
theorem placeK_int {a b : Nat} {x y : Int} (h : IsC a b x y) (h1 : x.natAbs ≤ 2 ^ 40) (h2 : y.natAbs ≤ 2 ^ 40) {R : Type} (k : Bool → Option R) : placeK R a b k = k true := by
  unfold placeK placeB WithinK WithinB
  rw [withinK_int h.1 h1, forceB_eq]
  simp only
  rw [withinK_int h.2 h2]
  simp only [forceB_eq]
end Go.Vm
