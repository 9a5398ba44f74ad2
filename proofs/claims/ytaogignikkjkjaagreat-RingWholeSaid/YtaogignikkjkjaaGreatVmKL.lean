/- A part of the evaluator and of what is told of floats; no conditions. -/
import Derived.Test.YtaogignikkjkjaaGreatVmLP
import Derived.Test.YtaogignikkjkjaaGreatVmF0
set_option linter.unusedSimpArgs false
set_option linter.unusedVariables false
set_option linter.unusedSectionVars false
set_option maxRecDepth 1000000
namespace Go.Vm
open Ieee
def sPi:Sum:=fun R args k=>match args with
 |[]=>k (.tuple ⟨[.float .f64 4614256656552045848,.float .f64 4368955796522032135]⟩)
 |_=>none
def sInfW2:Sum:=fun R args k=>match args with
 |[.int .i64 s]=>bif s == 1 then k (.float .f64 9218868437227405312) else bif s == -1 then k (.float .f64 18442240474082181120) else none
 |_=>none
def series {R:Type} (z:Nat):List Nat→Nat→(Nat→Option R)→Option R
 |[],s,k=>k s
 |r::rs,s,k=>bindF (fbF .mul z s) fun p=>bindF (fbF .sub r p) fun s=>series z rs s k
def seriesP {R:Type} (z:Nat):List Nat→Nat→(Nat→Option R)→Option R
 |[],s,k=>k s
 |r::rs,s,k=>bindF (fbF .mul z s) fun p=>bindF (fbF .add r p) fun s=>seriesP z rs s k
def coreList:List Nat:=[4581539473982948665,4581789782603141207,4582062340878461975,4582360253411952116,4582687230582855930,4583047743873852442,4583447231574686416,4583892375012758557,4584391475231203080,4584809698070499460,4585130310279789462,4585498420594159464,4585925428558828667,4586426698778222948,4587023449039406616,4587745830934523688,4588638185040256542,4589468260265693457,4590207312512236308,4591215111030249286,4592670820000712476,4594314991293244562,4596373779694328218,4599676419421066581,4607182418800017408]
def oddList:List Nat:=[4586426698778222948,4587023449039406616,4587745830934523688,4588638185040256542,4589468260265693457,4590207312512236308,4591215111030249286,4592670820000712476,4594314991293244562,4596373779694328218,4599676419421066581]
def coreK:KFF:=fun R t k=>forceB (gtF t 4601130706800738304) fun far=>match far with
 |true=>bindF (fbF .sub t 4607182418800017408) fun d=>bindF (fbF .add t 4607182418800017408) fun e=>bindF (fbF .quo d e) fun u=>
   bindF (fbF .mul u u) fun z=>series z coreList 0 fun s=>bindF (fbF .mul u s) fun v=>bindF (fbF .add v 4359948597267291143) fun x=>bindF (fbF .add 4605249457297304856 x) k
 |false=>bindF (fbF .mul t t) fun z=>series z coreList 0 fun s=>bindF (fbF .mul t s) k
def oddK:KFF:=fun R f k=>bindF (fbF .mul f f) fun s=>seriesP s oddList 4585925428558828667 fun q=>
 bindF (fbF .mul 4611686018427387904 f) fun a=>bindF (fbF .mul s q) fun x=>bindF (fbF .mul a x) fun y=>bindF (fbF .add a y) k
def logB (fi:Fi) (infP:KFB) (pa:KFFI) (odd:KFF):KFF:=fun R x k=>forceB (neF x x) fun t=>match t with
 |true=>k x
 |false=>infP R x fun t=>forceB t fun t=>match t with
  |true=>k x
  |false=>forceB (ltF x 0) fun t=>match t with
   |true=>none
   |false=>forceB (eqF x 0) fun t=>match t with
    |true=>k 18442240474082181120
    |false=>pa R x fun m e=>
     let rest:Nat→Int→Option R:=fun m e=>forceN (floatOfInt .f64 e) fun n=>bindF (fbF .mul n 4604418534311723008) fun h=>bindF (fbF .mul n 4461442080421002358) fun l=>
      bindF (fbF .sub m 4607182418800017408) fun p=>bindF (fbF .add m 4607182418800017408) fun q=>bindF (fbF .quo p q) fun f=>odd R f fun o=>bindF (fbF .add l o) fun x=>bindF (fbF .add h x) k
     forceB (ltF m 4604544271217802189) fun t=>match t with
     |true=>bindF (fbF .mul 4611686018427387904 m) fun m=>fi R (IntKind.i64.wrap (e-1)) fun e=>rest m e
     |false=>rest m e
def signB (fi:Fi):KFB:=fun R x k=>fi R (IntKind.i64.wrap (x:Int)) fun n=>forceB (decide (n<0)) fun t=>k t
def minusB (sg:KFB):KFB:=fun R x k=>forceB (eqF x x) fun t=>match t with
 |true=>sg R x fun t=>forceB t fun t=>k t
 |false=>k false
def signedB (mi:KFB) (ab:KFF):KFFF:=fun R a b k=>mi R b fun t=>forceB t fun t=>match t with
 |true=>ab R a fun x=>forceN (Op.negFloat .f64 x) k
 |false=>ab R a k
def angleB (ab:KFF) (infP:KFB) (core:KFF) (mi:KFB) (sd:KFFF):KFFF:=fun R y x k=>forceB (neF y y) fun t=>match t with
 |true=>none
 |false=>forceB (neF x x) fun t=>match t with
  |true=>none
  |false=>ab R y fun p=>ab R x fun q=>
   let rest:Nat→Option R:=fun b=>mi R x fun t=>forceB t fun t=>match t with
    |true=>bindF (fbF .sub b 4368955796522032135) fun c=>bindF (fbF .sub 4614256656552045848 c) fun b=>sd R b y k
    |false=>sd R b y k
   let three:Option R:=forceB (leF p q) fun t=>match t with
    |true=>bindF (fbF .quo p q) fun t=>core R t rest
    |false=>bindF (fbF .quo q p) fun t=>core R t fun c=>bindF (fbF .sub c 4364452196894661639) fun d=>bindF (fbF .sub 4609753056924675352 d) rest
   forceB (eqF p 0) fun t=>match t with
   |true=>rest 0
   |false=>forceB (eqF p q) fun t=>match t with
    |true=>infP R p fun t=>forceB t fun t=>match t with
     |true=>rest 4605249457297304856
     |false=>three
    |false=>three
def powLogB (len:KCF) (lg:KFF) (an:KFFF):KCC:=fun R a b k=>len R a b fun l=>lg R l fun x=>an R b a fun y=>k x y
structure Mp where
 a1:Nat
 a2:Nat
 b1:Nat
 b2:Nat
 c1:Nat
 c2:Nat
 d1:Nat
 d2:Nat
 p:Nat
def oneM {R:Type} (v:Value) (k:Int→Mp→Option R):Option R:=match v with
 |.agg ⟨[.int .u8 i,.complex .f64 a1 a2,.complex .f64 b1 b2,.complex .f64 c1 c2,.complex .f64 d1 d2,.float .f64 p]⟩=>k i ⟨a1,a2,b1,b2,c1,c2,d1,d2,p⟩
 |_=>none
def ofK {R:Type} (x y:Int) (k:Nat→Nat→Option R):Option R:=forceN (floatOfInt .f64 x) fun a=>forceN (floatOfInt .f64 y) fun b=>k a b
def errIn {R:Type}:List Int→Int→(Int→Option R)→Option R
 |[],_,_=>none
 |c::cs,e,ke=>forceB (e == c) fun t=>match t with
  |true=>ke c
  |false=>errIn cs e ke
def zOk {R:Type} (k:Value→Option R) (x y:Nat):Option R:=k (.tuple ⟨[.complex .f64 x y,.int .i64 0]⟩)
abbrev KMZ:=∀ R:Type,Mp→Nat→Nat→(Int→Option R)→(Nat→Nat→Option R)→Option R
def sInf3 (g0 gp gm:KFB):Sum:=fun R args k=>match args with
 |[.float .f64 a,.int .i64 s]=>bif s == 0 then g0 R a fun t=>forceB t fun t=>k (.bool t) else bif s == 1 then gp R a fun t=>forceB t fun t=>k (.bool t) else
   bif s == -1 then gm R a fun t=>forceB t fun t=>k (.bool t) else none
 |_=>none
def isInfPK:KFB:=fun R a k=>forceB (gtF a 9218868437227405311) fun t=>k t
def isInfMK:KFB:=fun R a k=>forceN (Op.negFloat .f64 a) fun x=>forceB (gtF x 9218868437227405311) fun t=>k t
abbrev KCFC:=∀ R:Type,Nat→Nat→Nat→(Nat→Nat→Option R)→Option R
def sCFC (g:KCFC):Sum:=fun R args k=>match args with
 |[.complex .f64 a b,.float .f64 c]=>g R a b c fun x y=>k (.complex .f64 x y)
 |_=>none
def sclK:KCFC:=fun R a b c k=>bindF (fbF .mul a c) fun x=>bindF (fbF .mul b c) fun y=>k x y
def zErrL {R:Type} (L:List Int) (k:Value→Option R) (e:Int):Option R:=errIn L e fun e=>k (.tuple ⟨[.complex .f64 0 0,.int .i64 e]⟩)
def el (kind:Int) (a1 a2 s1 s2 p:Nat):Value:=.agg ⟨[.int .u8 kind,.complex .f64 a1 a2,.complex .f64 s1 s2,.float .f64 p]⟩
abbrev KEI:=∀ R:Type,Int→Nat→Nat→Nat→Nat→Nat→(Int→Option R)→Option R
def sEI (g:KEI):Sum:=fun R args k=>match args with
 |[.agg ⟨[.int .u8 kind,.complex .f64 a1 a2,.complex .f64 s1 s2,.float .f64 p]⟩]=>g R kind a1 a2 s1 s2 p fun e=>k (.int .i64 e)
 |_=>none
def checkB (re:KCB) (wi:KFFB) (no:KCB) (wh:KFB):KEI:=fun R kind a1 a2 s1 s2 p k=>
 forceB (decide (kind<1)) fun t=>match t with
 |true=>k 150
 |false=>forceB (decide (kind > 4)) fun t=>match t with
  |true=>k 150
  |false=>re R a1 a2 fun t=>forceB t fun t=>match t with
   |false=>k 5
   |true=>re R s1 s2 fun t=>forceB t fun t=>match t with
    |false=>k 5
    |true=>wi R p 4787326403894837248 fun t=>forceB t fun t=>match t with
     |false=>k 5
     |true=>forceB (kind == 1) fun t=>match t with
      |true=>no R a1 a2 fun t=>forceB t fun t=>match t with
       |true=>forceB (eqF p 0) fun t=>match t with|true=>k 0|false=>k 150
       |false=>k 150
      |false=>forceB (kind == 2) fun t=>match t with
       |true=>forceB (eqF p 0) fun t=>match t with|true=>k 0|false=>k 150
       |false=>forceB (kind == 3) fun t=>match t with
        |true=>wh R p fun t=>forceB t fun t=>match t with
         |true=>forceB (geF p 4607182418800017408) fun t=>match t with
          |true=>forceB (leF p 4620693217682128896) fun t=>match t with|true=>k 0|false=>k 150
          |false=>k 150
         |false=>k 150
        |false=>forceB (kind == 4) fun t=>match t with
         |true=>forceB (geF p 4598175219545276416) fun t=>match t with
          |true=>forceB (leF p 4616189618054758400) fun t=>match t with|true=>k 0|false=>k 150
          |false=>k 150
         |false=>k 150
def toldE {R:Type} (fin:KCB) (er:Int→Option R) (k:Nat→Nat→Option R) (x y:Nat):Option R:=
 fin R x y fun t=>forceB t fun t=>match t with|true=>k x y|false=>er 6
def spS (chk:KEI) (re no fin:KCB) (sub:KCCC):∀ R:Type,Nat→Nat→Nat→Nat→Nat→Nat→(Int→Option R)→(Nat→Nat→Option R)→Option R:=fun R a1 a2 s1 s2 z1 z2 er k=>
 chk R 1 a1 a2 s1 s2 0 fun e=>match decide (e=0) with
  |false=>er e
  |true=>re R z1 z2 fun t=>forceB t fun t=>match t with
   |false=>er 5
   |true=>sub R z1 z2 a1 a2 fun d1 d2=>no R d1 d2 fun t=>forceB t fun t=>match t with
    |true=>toldE fin er k s1 s2
    |false=>toldE fin er k s1 s2
def spO (chk:KEI) (re no fin:KCB) (sub div:KCCC) (scl:KCFC):∀ R:Type,Nat→Nat→Nat→Nat→Nat→Nat→(Int→Option R)→(Nat→Nat→Option R)→Option R:=fun R a1 a2 s1 s2 z1 z2 er k=>
 chk R 2 a1 a2 s1 s2 0 fun e=>match decide (e=0) with
  |false=>er e
  |true=>re R z1 z2 fun t=>forceB t fun t=>match t with
   |false=>er 5
   |true=>scl R s1 s2 4594902181429758083 fun c1 c2=>sub R z1 z2 a1 a2 fun d1 d2=>no R d1 d2 fun t=>forceB t fun t=>match t with
    |true=>er 6
    |false=>div R c1 c2 d1 d2 (toldE fin er k)
def spD (chk:KEI) (re no fin:KCB) (sub div mul:KCCC) (scl:KCFC):∀ R:Type,Nat→Nat→Nat→Nat→Nat→Nat→(Int→Option R)→(Nat→Nat→Option R)→Option R:=fun R a1 a2 s1 s2 z1 z2 er k=>
 chk R 3 a1 a2 s1 s2 4607182418800017408 fun e=>match decide (e=0) with
  |false=>er e
  |true=>re R z1 z2 fun t=>forceB t fun t=>match t with
   |false=>er 5
   |true=>sub R z1 z2 a1 a2 fun d1 d2=>no R d1 d2 fun t=>forceB t fun t=>match t with
    |true=>er 6
    |false=>scl R s1 s2 13830554455654793216 fun t1 t2=>mul R d1 d2 d1 d2 fun q1 q2=>div R t1 t2 q1 q2 (toldE fin er k)
def vErr {R:Type} (k:Value→Option R) (e:Int):Option R:=k (.tuple ⟨[.complex .f64 0 0,.int .i64 e]⟩)
def sSp (f1 f2 f3:∀ R:Type,Nat→Nat→Nat→Nat→Nat→Nat→(Int→Option R)→(Nat→Nat→Option R)→Option R):Sum:=fun R args k=>match args with
 |[.agg ⟨[.int .u8 kind,.complex .f64 a1 a2,.complex .f64 s1 s2,.float .f64 p]⟩,.complex .f64 z1 z2]=>
  bif kind == 1 && Nat.beq p 0 then f1 R a1 a2 s1 s2 z1 z2 (vErr k) (zOk k)
  else bif kind == 2 && Nat.beq p 0 then f2 R a1 a2 s1 s2 z1 z2 (vErr k) (zOk k)
  else bif kind == 3 && Nat.beq p 4607182418800017408 then f3 R a1 a2 s1 s2 z1 z2 (vErr k) (zOk k)
  else none
 |_=>none
def sWh1:Sum:=fun R args k=>match args with
 |[.float .f64 p]=>bif Nat.beq p 4607182418800017408 then k (.bool true) else none
 |_=>none
def wh1:KFB:=fun R p k=>bif Nat.beq p 4607182418800017408 then k true else none
def sW2 (mul:KCCC):Sum:=fun R args k=>match args with
 |[.complex .f64 a b,.int .i64 n]=>bif n == 2 then mul R a b a b fun x y=>k (.complex .f64 x y) else none
 |_=>none
abbrev KFF2:=∀ R:Type,Nat→(Nat→Nat→Option R)→Option R
def sFF2 (g:KFF2):Sum:=fun R args k=>match args with
 |[.float .f64 y]=>g R y fun s c=>k (.tuple ⟨[.float .f64 s,.float .f64 c]⟩)
 |_=>none
def stepsR {R:Type} (z:Nat):List (Nat×Nat)→Nat→Nat→(Nat→Nat→Option R)→Option R
 |[],s,c,k=>k s c
 |(a,b)::r,s,c,k=>bindF (fbF .quo z a) fun x=>bindF (fbF .mul x s) fun x=>bindF (fbF .sub 4607182418800017408 x) fun s=>
   bindF (fbF .quo z b) fun x=>bindF (fbF .mul x c) fun x=>bindF (fbF .sub 4607182418800017408 x) fun c=>stepsR z r s c k
def stepsL:List (Nat×Nat):=[(4644724143818801152,4644090825121202176),(4643492690795692032,4642648265865560064),(4641592734702895104,4640607572284407808),(4639692778610098176,4638848353679966208),(4637440978796412928,4636033603912859648),(4634766966517661696,4633078116657397760),(4631107791820423168,4629137466983448576),(4626322717216342016,4622945017495814144),(4618441417868443648,4611686018427387904)]
def stepsK:KFF2:=fun R y k=>bindF (fbF .mul y y) fun z=>stepsR z stepsL 4607182418800017408 4607182418800017408 fun s c=>bindF (fbF .mul y s) fun s=>k s c
def xFrom:Sum:=fun R args k=>match args with
 |[.int .u64 n]=>forceN n.toNat fun x=>k (.float .f64 x)
 |_=>none
def xBits:Sum:=fun R args k=>match args with
 |[.float .f64 b]=>fiReal R (b:Int) fun n=>k (.int .u64 n)
 |_=>none
def xWhole (way:Ieee.Toward):Sum:=fun R args k=>match args with
 |[.float .f64 x]=>match Ieee.double.read x with
  |.nan _ _=>none
  |d=>forceN (Ieee.double.write (d.integral way)) fun y=>k (.float .f64 y)
 |_=>none
structure Rnd2 (x z:Rat):Prop where
 near:(z-x).abs≤x.abs*(2:Rat)^(-52:Int)∨(z-x).abs≤(2:Rat)^(-1074:Int)
 rep:∀(K:Int) (q:Int),K.natAbs<2^53→-1074≤q→x=K*(2:Rat)^q→z=x
theorem abs_zero:((0:Rat)).abs=0:=by rw[Rat.abs_of_nonneg (by decide)]
theorem abs_add_le (x y:Rat):(x+y).abs≤x.abs+y.abs:=by
 rw[abs_le_iff]
 have h1:=(abs_le_iff (x:=x) (y:=x.abs)).1 Rat.le_refl; have h2:=(abs_le_iff (x:=y) (y:=y.abs)).1 Rat.le_refl; grind
theorem abs_neg (x:Rat):(-x).abs=x.abs:=by
 have:=abs_mul (-1) x
 rw[show (-1:Rat)*x=-x by grind]at this
 rw[this]
 have:((-1:Rat)).abs=1:=by rw[Rat.abs_of_nonpos (by decide)];rfl
 rw[this];grind
theorem abs_sub_comm (x y:Rat):(x-y).abs=(y-x).abs:=by rw[← abs_neg (x-y)];congr 1;grind
theorem p2_one:(2:Rat)^(1:Int)=2:=by simp
theorem p2_succ (q:Int):(2:Rat)^(q+1)=2*(2:Rat)^q:=by rw[p2_add,p2_one];grind
theorem p2_half (q:Int):(2:Rat)^q=2*(2:Rat)^(q-1):=by rw[← p2_succ];congr 1;omega
theorem quotient_val {s t:Bool} {m n:Nat} {i j:Int} (hn:n≠0):∃ b k e,Datum.quotient 54 (.number s m i) (.number t n j)=some (.number b k e)∧
  (dv b k e-dv s m i/dv t n j).abs≤(dv s m i/dv t n j).abs*(2:Rat)^(-54:Int)∧
  (∀(K:Int) (q:Int),K.natAbs<2^53→dv s m i/dv t n j=K*(2:Rat)^q→dv b k e=dv s m i/dv t n j):=by
 refine⟨_,_,_,by unfold Datum.quotient;simp only[hn,if_false];rfl,?_⟩
 have hn0:(0:Rat)<(n:Rat):=by exact_mod_cast Nat.pos_of_ne_zero hn
 generalize hmore:54+n.log2-m.log2=more; generalize hD:m <<< more=D; have hDm:D=m*2^more:=by rw[← hD,Nat.shiftLeft_eq]
 have hE0:=p2_pos (i-j-more); have hj0:=p2_pos j; have hi0:=p2_pos i; have hq:dv s m i/dv t n j=sg (s ^^ t)*(((D:Rat)/n)*(2:Rat)^(i-j-more)):=by
  have e1:(2:Rat)^i=(2:Rat)^(i-j-more)*(2:Rat)^j*(2:Rat)^(more:Int):=by
   rw[← p2_add,← p2_add];congr 1;omega
  have e2:(D:Rat)=m*(2:Rat)^(more:Int):=by rw[hDm,p2_nat];push_cast;rfl
  have hu:dv t n j≠0:=by
   unfold dv; intro h; rcases Rat.mul_eq_zero.1 h with h|h
   ·cases t<;>simp[sg]at h<;>grind
   ·rcases Rat.mul_eq_zero.1 h with h|h<;>grind
  have hd:(D:Rat)/n*n=D:=Rat.div_mul_cancel (by grind)
  rw[Rat.div_def]
  have hx:dv s m i=sg (s ^^ t)*(((D:Rat)/n)*(2:Rat)^(i-j-more))*dv t n j:=by
   unfold dv
   rw[sg_xor,e1]
   have hs2:sg t*sg t=1:=by cases t<;>simp[sg]<;>grind
   have:sg s*sg t*((D:Rat)/n*(2:Rat)^(i-j-more))*(sg t*(n*(2:Rat)^j))=sg s*(sg t*sg t)*(((D:Rat)/n*n)*(2:Rat)^(i-j-more)*(2:Rat)^j):=by grind
   rw[this,hs2,hd,e2]
   grind
  rw[hx,Rat.mul_assoc,Rat.mul_inv_cancel _ hu]
  grind
 have hdm:=Nat.div_add_mod D n; have hlt:=Nat.mod_lt D (Nat.pos_of_ne_zero hn); have hdmr:(n:Rat)*((D/n:Nat):Rat)+((D % n:Nat):Rat)=D:=by exact_mod_cast congrArg (fun z:Nat=>(z:Rat)) hdm
 have hval:((D:Rat)/n)=((D/n:Nat):Rat)+((D % n:Nat):Rat)/n:=by
  have h1:((D:Rat)/n)*n=D:=Rat.div_mul_cancel (by grind); have h2:(((D % n:Nat):Rat)/n)*n=((D % n:Nat):Rat):=Rat.div_mul_cancel (by grind); have h3:((D:Rat)/n-(((D/n:Nat):Rat)+((D % n:Nat):Rat)/n))*n=0:=by grind
  rcases Rat.mul_eq_zero.1 h3 with h|h<;>grind
 have hfl:m≠0→2^53≤D/n:=fun hm=>by
  rw[Nat.le_div_iff_mul_le (Nat.pos_of_ne_zero hn)]
  have h1:2^m.log2≤m:=Nat.log2_self_le hm; have h2:n<2^(n.log2+1):=Nat.lt_log2_self; have h3:2^m.log2*2^more≤D:=by rw[hDm];exact Nat.mul_le_mul_right _ h1
  rw[← Nat.pow_add]at h3
  have h4:2^(54+n.log2)≤2^(m.log2+more):=Nat.pow_le_pow_right (by decide) (by omega); have h5:2^53*n≤2^53*2^(n.log2+1):=Nat.mul_le_mul_left _ (by omega)
  rw[← Nat.pow_add,show 53+(n.log2+1)=54+n.log2 by omega]at h5
  omega
 generalize hf:D/n=f at *
 generalize hr:D % n=r at *
 have hb:dv (s ^^ t) (2*f+(r != 0).toNat) (i-j-more-1)=sg (s ^^ t)*(((f:Rat)+(if r=0 then 0 else 1/2))*(2:Rat)^(i-j-more)):=by
  unfold dv
  rw[p2_half (i-j-more)]
  by_cases h0:r=0
  ·simp[h0];grind
  ·have:(r != 0)=true:=by simp[h0]
   simp only[this,Bool.toNat_true,h0,if_false]
   push_cast; grind
 have hr0:(0:Rat)≤(r:Rat)/n:=by
  have h1:(r:Rat)/n*n=r:=Rat.div_mul_cancel (by grind); have h2:(0:Rat)≤(r:Rat):=by exact_mod_cast Nat.zero_le _
  refine Rat.not_lt.1 fun hlt'=>?_
  have:=Rat.mul_lt_mul_of_pos_right hlt' hn0
  grind
 have hr1:(r:Rat)/n<1:=by
  have h1:(r:Rat)/n*n=r:=Rat.div_mul_cancel (by grind); have h2:(r:Rat)<(n:Rat):=nat_cast_lt hlt; refine Rat.not_le.1 fun hle'=>?_
  have:=Rat.mul_le_mul_of_nonneg_right hle' (Rat.le_of_lt hn0)
  grind
 generalize hR:(r:Rat)/n=rho at *
 constructor
 ·rw[hb,hq,hval]
  by_cases h0:r=0
  ·have hrho:rho=0:=by
    have:(r:Rat)=0:=by simp[h0]
    rw[← hR,this,Rat.div_def];simp
   simp only[h0,if_true,hrho]
   rw[Rat.sub_self,abs_zero]
   exact Rat.mul_nonneg (abs_nonneg _) (Rat.le_of_lt (p2_pos _))
  ·have hm:m≠0:=by
    rintro rfl
    have:D=0:=by simp[hDm]
    rw[this]at hr
    simp at hr
    exact h0 hr.symm
   simp only[h0,if_false]
   have e1:sg (s ^^ t)*(((f:Rat)+1/2)*(2:Rat)^(i-j-more))-sg (s ^^ t)*((f+rho)*(2:Rat)^(i-j-more))=sg (s ^^ t)*((1/2-rho)*(2:Rat)^(i-j-more)):=by grind
   rw[e1,sg_abs,sg_abs,abs_mul,abs_mul]
   have e2:(1/2-rho).abs≤1/2:=by rw[abs_le_iff];constructor<;>grind
   have e3:((2:Rat)^(53:Int))≤((f:Rat)+rho).abs:=by
    have h1:((2^53:Nat):Rat)≤(f:Rat):=nat_cast_le (hfl hm); have h2:(2:Rat)^(53:Int)=((2^53:Nat):Rat):=p2_nat 53; have h3:=(abs_le_iff (x:=(f:Rat)+rho) (y:=((f:Rat)+rho).abs)).1 Rat.le_refl
    rw[h2]
    grind
   have e4:(2:Rat)^(53:Int)*(2:Rat)^(-54:Int)=1/2:=by
    rw[← p2_add,show (53+-54:Int)=-1 by decide]
    have:=p2_half 0
    rw[Rat.zpow_zero,show (0-1:Int)=-1 by decide]at this
    grind
   have e5:=Rat.mul_le_mul_of_nonneg_right e3 (Rat.le_of_lt (p2_pos (-54)))
   rw[e4]at e5
   have e6:((2:Rat)^(i-j-more)).abs=(2:Rat)^(i-j-more):=Rat.abs_of_nonneg (Rat.le_of_lt hE0)
   rw[e6]
   have e7:=Rat.mul_le_mul_of_nonneg_right (Rat.le_trans e2 e5) (Rat.le_of_lt hE0); grind
 ·intro K q hK he
  rw[hb,hq,hval]
  by_cases h0:r=0
  ·have hrho:rho=0:=by
    have:(r:Rat)=0:=by simp[h0]
    rw[← hR,this,Rat.div_def];simp
   simp only[h0,if_true,hrho]
  ·exfalso; have hm:m≠0:=by
    rintro rfl
    have:D=0:=by simp[hDm]
    rw[this]at hr
    simp at hr
    exact h0 hr.symm
   rw[hq,hval]at he
   have habs:=congrArg Rat.abs he
   rw[sg_abs,abs_mul,abs_mul]at habs
   have e6:((2:Rat)^(i-j-more)).abs=(2:Rat)^(i-j-more):=Rat.abs_of_nonneg (Rat.le_of_lt hE0); have e7:((2:Rat)^q).abs=(2:Rat)^q:=Rat.abs_of_nonneg (Rat.le_of_lt (p2_pos q)); have hf0:(0:Rat)≤(f:Rat):=by exact_mod_cast Nat.zero_le _
   have e8:((f:Rat)+rho).abs=f+rho:=Rat.abs_of_nonneg (by grind); have e9:((K:Rat)).abs=((K.natAbs:Nat):Rat):=by
    have:=dv_abs (decide (K<0)) K.natAbs 0
    rw[int_dv K (decide (K<0)) 0 fun _=>rfl]at this
    simpa using this
   rw[e6,e7,e8,e9]at habs
   have h1:((2^53:Nat):Rat)≤(f:Rat):=nat_cast_le (hfl hm); have h2:((K.natAbs:Nat):Rat)<((2^53:Nat):Rat):=nat_cast_lt hK; have hlt2:i-j-more<q:=by
    refine p2_lt_of (Rat.not_le.1 fun hle=>?_)
    have g1:((K.natAbs:Nat):Rat)*(2:Rat)^q≤((K.natAbs:Nat):Rat)*(2:Rat)^(i-j-more):=Rat.mul_le_mul_of_nonneg_left hle (by exact_mod_cast Nat.zero_le _); have g2:((K.natAbs:Nat):Rat)*(2:Rat)^(i-j-more)<((f:Rat)+rho)*(2:Rat)^(i-j-more):=Rat.mul_lt_mul_of_pos_right (by grind) hE0; grind
   obtain⟨c,hc⟩:=Int.eq_ofNat_of_zero_le (show 0≤q-(i-j-more) by omega)
   have h3:((f:Rat)+rho)=((K.natAbs*2^c:Nat):Rat):=by
    have g3:(2:Rat)^q=(2:Rat)^(c:Int)*(2:Rat)^(i-j-more):=by rw[← p2_add];congr 1;omega
    rw[g3,p2_nat]at habs
    have g4:(((f:Rat)+rho)-((K.natAbs*2^c:Nat):Rat))*(2:Rat)^(i-j-more)=0:=by push_cast at *;grind
    rcases Rat.mul_eq_zero.1 g4 with h|h<;>grind
   have h4:rho=0:=by
    have g5:(f:Rat)≤((K.natAbs*2^c:Nat):Rat):=by grind
    have g6:((K.natAbs*2^c:Nat):Rat)<((f+1:Nat):Rat):=by push_cast at *;grind
    have g7:f≤K.natAbs*2^c:=by exact_mod_cast g5
    have g8:K.natAbs*2^c<f+1:=nat_of_lt g6; have g9:K.natAbs*2^c=f:=by omega
    rw[g9]at h3
    grind
   have h5:(r:Rat)=0:=by
    have:=Rat.div_mul_cancel (a:=(r:Rat)) (b:=(n:Rat)) (by grind)
    rw[hR,h4]at this
    grind
   exact h0 (by exact_mod_cast h5)
theorem tri {x y z:Rat}:(x-z).abs≤(x-y).abs+(y-z).abs:=by
 have:=abs_add_le (x-y) (y-z)
 rw[show x-y+(y-z)=x-z by grind]at this
 exact this
theorem div_is {a b:Nat} {x y:Rat} (ha:Is a x) (hb:Is b y) (hy:y≠0) (h:(x/y).abs<(2:Rat)^(1022:Int)):
  ∃ r z,fbF .quo a b=some r∧Is r z∧Rnd2 (x/y) z:=by
 obtain⟨_,s,m,i,h1,rfl⟩:=ha
 obtain⟨_,t,n,j,h2,rfl⟩:=hb
 have hn:n≠0:=by rintro rfl;exact hy (dv_zero _ _)
 obtain⟨c,k,e,h3,h4,h5⟩:=@quotient_val s t m n i j hn
 generalize dv s m i/dv t n j=q at *
 generalize hd:dv c k e=v at *
 have hv:v.abs≤q.abs+q.abs*(2:Rat)^(-54:Int):=by
  have:=abs_add_le (v-q) q
  rw[show v-q+q=v by grind]at this
  grind
 have p54:(2:Rat)^(-54:Int)≤1:=by
  have:=p2_le (show (-54:Int)≤0 by decide)
  rwa [Rat.zpow_zero]at this
 have hq0:=abs_nonneg q; have hlt:v.abs<(2:Rat)^(1023:Int):=by
  have g1:=Rat.mul_le_mul_of_nonneg_left p54 hq0; have g2:=p2_half 1023
  rw[show (1023-1:Int)=1022 by decide]at g2
  grind
 rw[← hd]at hlt
 obtain⟨z,g1,g2⟩:=number_is hlt
 rw[hd]at g2
 refine⟨_,z,?_,g1,?_,?_⟩
 ·rw[fbF_eq]
  show double.div a b=_; unfold Format.div
  rw[h1,h2]
  have:double.fractionBits+2=54:=by decide
  rw[this,h3]
  rfl
 ·have ht:=@tri z v q; have e53:(2:Rat)^(-53:Int)=2*(2:Rat)^(-54:Int):=p2_half (-53); have e52:(2:Rat)^(-52:Int)=2*(2:Rat)^(-53:Int):=p2_half (-52); have f1:q.abs*(2:Rat)^(-54:Int)≤q.abs:=by have:=Rat.mul_le_mul_of_nonneg_left p54 hq0;grind
  have p0:=p2_pos (-54); have p1:=p2_pos (-53); rcases g2.near with h|h
  ·left; have f2:v.abs*(2:Rat)^(-53:Int)≤(q.abs+q.abs*(2:Rat)^(-54:Int))*(2:Rat)^(-53:Int):=Rat.mul_le_mul_of_nonneg_right hv (Rat.le_of_lt p1); have p53:(2:Rat)^(-53:Int)≤1/2:=by
    have:=p2_le (show (-53:Int)≤-1 by decide)
    have h0:=p2_half 0
    rw[Rat.zpow_zero,show (0-1:Int)=-1 by decide]at h0
    grind
   have f3:=Rat.mul_le_mul_of_nonneg_left p53 (Rat.mul_nonneg hq0 (Rat.le_of_lt p0)); grind
  ·by_cases hc:q.abs*(2:Rat)^(-54:Int)≤(2:Rat)^(-1075:Int)
   ·right
    have:=p2_half (-1074)
    rw[show (-1074-1:Int)=-1075 by decide]at this
    grind
   ·left; have f4:=Rat.mul_nonneg hq0 (Rat.le_of_lt p0); grind
 ·intro K q' hK hq' he; have hx:=h5 K q' hK he
  rw[hx]at g2
  exact g2.rep K q' hK hq' he
theorem rootFrom_spec (n:Nat):∀(todo root:Nat),root*root≤n→n<(root+2^todo)*(root+2^todo)→
  Datum.rootFrom n todo root*Datum.rootFrom n todo root≤n∧n<(Datum.rootFrom n todo root+1)*(Datum.rootFrom n todo root+1)
 |0,root,h1,h2=>by
  unfold Datum.rootFrom
  exact⟨h1,by simpa using h2⟩
 |todo+1,root,h1,h2=>by
  unfold Datum.rootFrom; simp only[Nat.shiftLeft_eq,Nat.one_mul]; split
  ·rename_i h; refine rootFrom_spec n todo _ h ?_
   have:root+2^todo+2^todo=root+2^(todo+1):=by rw[Nat.pow_succ];omega
   rw[this];exact h2
  ·rename_i h; exact rootFrom_spec n todo _ h1 (by omega)
theorem root_val {m:Nat} {i:Int} (hm:m≠0):∃ k e,Datum.root 54 (.number false m i)=some (.number false k e)∧
  (dv false k e*dv false k e-dv false m i).abs≤dv false m i*(2:Rat)^(-53:Int)∧0<dv false k e:=by
 refine⟨_,_,by unfold Datum.root;simp only[hm,if_false,Bool.false_eq_true];rfl,?_⟩
 generalize hmore:2*54-m.log2=more; have hpar:(i-((more+((i-(more:Int)) % 2).toNat:Nat):Int)) % 2=0:=by omega
 generalize hm2:more+((i-(more:Int)) % 2).toNat=mo at *
 have hmo:108-m.log2≤mo:=by omega
 generalize hn:m <<< mo=n; have hnm:n=m*2^mo:=by rw[← hn,Nat.shiftLeft_eq]
 have hL1:2^m.log2≤m:=Nat.log2_self_le hm; have hn108:2^54*2^54≤n:=by
  rw[hnm,← Nat.pow_add]
  have h1:=Nat.mul_le_mul_right (2^mo) hL1
  rw[← Nat.pow_add]at h1
  have h2:2^(54+54)≤2^(m.log2+mo):=Nat.pow_le_pow_right (by decide) (by omega); omega
 obtain⟨r1,r2⟩:=rootFrom_spec n (n.log2/2+1) 0 (by omega) (by
  have h1:n<2^(n.log2+1):=Nat.lt_log2_self; have h2:2^(n.log2+1)≤2^((n.log2/2+1)+(n.log2/2+1)):=Nat.pow_le_pow_right (by decide) (by omega)
  rw[Nat.pow_add 2 (n.log2/2+1) (n.log2/2+1)]at h2
  simp only[Nat.zero_add]
  omega)
 generalize Datum.rootFrom n (n.log2/2+1) 0=w at *
 have hw:2^54≤w:=by
  refine Nat.not_lt.1 fun hlt=>?_
  have:=Nat.mul_le_mul (show w+1≤2^54 by omega) (show w+1≤2^54 by omega)
  omega
 generalize hE:(i-(mo:Int))/2=E at *
 have hiE:i=(mo:Int)+(E+E):=by omega
 have hu:=p2_pos E; have hx:dv false m i=(n:Rat)*((2:Rat)^E*(2:Rat)^E):=by
  unfold dv sg
  rw[hiE,p2_add,p2_add,p2_nat,hnm]
  push_cast; simp; grind
 have hv:dv false (2*w+(w*w != n).toNat) (E-1)=((w:Rat)+(if w*w=n then 0 else 1/2))*(2:Rat)^E:=by
  unfold dv sg
  rw[p2_half E]
  by_cases h0:w*w=n
  ·have:(w*w != n)=false:=by simp[h0]
   simp only[this,Bool.toNat_false,h0,if_true]
   push_cast; simp; grind
  ·have:(w*w != n)=true:=by simp[h0]
   simp only[this,Bool.toNat_true,h0,if_false]
   push_cast; simp; grind
 rw[hx,hv]
 have hw0:(0:Rat)<(w:Rat):=by
                     have:0<w:=by omega
                     exact_mod_cast this
 generalize (2:Rat)^E=u at *
 constructor
 ·by_cases h0:w*w=n
  ·simp only[h0,if_true]
   have:((n:Nat):Rat)=(w:Rat)*w:=by rw[← h0];push_cast;rfl
   have e:(((w:Rat)+0)*u*(((w:Rat)+0)*u)-(n:Rat)*(u*u))=0:=by rw[this];grind
   rw[e,abs_zero]
   have h1:(0:Rat)≤(n:Rat):=by exact_mod_cast Nat.zero_le _
   exact Rat.mul_nonneg (Rat.mul_nonneg h1 (Rat.mul_nonneg (Rat.le_of_lt hu) (Rat.le_of_lt hu))) (Rat.le_of_lt (p2_pos _))
  ·simp only[h0,if_false]
   have e:(((w:Rat)+1/2)*u*(((w:Rat)+1/2)*u)-(n:Rat)*(u*u))=((w:Rat)*w+w+1/4-n)*(u*u):=by grind
   rw[e,abs_mul,Rat.abs_of_nonneg (Rat.mul_nonneg (Rat.le_of_lt hu) (Rat.le_of_lt hu))]
   have n1:w*w+1≤n:=by omega
   have n2:n≤w*w+w+w:=by
    have:(w+1)*(w+1)=w*w+w+w+1:=by grind
    omega
   have q1:(w:Rat)*w+1≤n:=by exact_mod_cast n1
   have q2:(n:Rat)≤(w:Rat)*w+w+w:=by exact_mod_cast n2
   have q3:((w:Rat)*w+w+1/4-n).abs≤w:=by rw[abs_le_iff];constructor<;>grind
   have q4:(w:Rat)≤n*(2:Rat)^(-53:Int):=by
    have f1:((2^53:Nat):Rat)≤(w:Rat):=nat_cast_le (by omega); have f2:(2:Rat)^(53:Int)=((2^53:Nat):Rat):=p2_nat 53; have f3:(2:Rat)^(53:Int)*(2:Rat)^(-53:Int)=1:=by rw[← p2_add,show (53+-53:Int)=0 by decide,Rat.zpow_zero]
    have f4:=Rat.mul_le_mul_of_nonneg_left f1 (Rat.le_of_lt hw0)
    rw[← f2]at f4
    have f5:=Rat.mul_le_mul_of_nonneg_right (Rat.le_trans f4 (show (w:Rat)*w≤n by grind)) (Rat.le_of_lt (p2_pos (-53))); have f6:(w:Rat)*(2:Rat)^(53:Int)*(2:Rat)^(-53:Int)=w:=by rw[Rat.mul_assoc,f3];grind
    rwa [f6]at f5
   have:=Rat.mul_le_mul_of_nonneg_right (Rat.le_trans q3 q4) (Rat.mul_nonneg (Rat.le_of_lt hu) (Rat.le_of_lt hu))
   grind
 ·refine Rat.mul_pos ?_ hu
  split<;>grind
theorem sqrt_is {a:Nat} {x:Rat} (ha:Is a x) (hx:0<x) (hlt:x<(2:Rat)^(1000:Int)) (hgt:(2:Rat)^(-1000:Int)<x):
  ∃ r z,double.sqrt a=some r∧Is r z∧0<z∧(z*z-x).abs≤x*(2:Rat)^(-51:Int):=by
 obtain⟨_,s,m,i,h1,h2⟩:=ha
 have hm:m≠0:=by rintro rfl;rw[dv_zero]at h2;grind
 have hs:s=false:=by
  cases s
  ·rfl
  ·exfalso; have h3:(0:Rat)≤(m:Rat)*(2:Rat)^i:=Rat.mul_nonneg (by exact_mod_cast Nat.zero_le _) (Rat.le_of_lt (p2_pos i)); unfold dv sg at h2; simp only[if_true]at h2; grind
 subst hs
 obtain⟨k,e,h3,h4,h5⟩:=@root_val m i hm
 rw[h2]at h4
 generalize hd:dv false k e=v at *
 have e53:(2:Rat)^(-53:Int)≤1/100:=by
  have h6:=p2_le (show (-53:Int)≤-7 by decide); have h7:(2:Rat)^(-7:Int)*(2:Rat)^(7:Int)=1:=by rw[← p2_add,show (-7+7:Int)=0 by decide,Rat.zpow_zero]
  have h8:(2:Rat)^(7:Int)=128:=by rw[show (7:Int)=((7:Nat):Int) by rfl,p2_nat];rfl
  rw[h8]at h7
  grind
 have e51:(2:Rat)^(-51:Int)=4*(2:Rat)^(-53:Int):=by
  have h6:=p2_half (-51); have h7:=p2_half (-52)
  rw[show (-51-1:Int)=-52 by decide]at h6
  rw[show (-52-1:Int)=-53 by decide]at h7
  grind
 have p53:=p2_pos (-53); have hv2:=abs_le_iff.1 h4; have hxe:=Rat.mul_le_mul_of_nonneg_left e53 (Rat.le_of_lt hx); have hvlt:v<(2:Rat)^(1023:Int):=by
  refine Rat.not_le.1 fun hle=>?_
  have h6:(2:Rat)^(1023:Int)*(2:Rat)^(1023:Int)≤v*v:=
   Rat.le_trans (Rat.mul_le_mul_of_nonneg_left hle (Rat.le_of_lt (p2_pos 1023))) (Rat.mul_le_mul_of_nonneg_right hle (Rat.le_of_lt h5))
  rw[← p2_add]at h6
  have h7:=p2_le (show (1001:Int)≤1023+1023 by decide); have h8:=p2_half 1001
  rw[show (1001-1:Int)=1000 by decide]at h8
  grind
 have hvgt:(2:Rat)^(-1000:Int)≤v:=by
  refine Rat.not_lt.1 fun hl=>?_
  have h6:v*v≤(2:Rat)^(-1000:Int)*(2:Rat)^(-1000:Int):=
   Rat.le_trans (Rat.mul_le_mul_of_nonneg_left (Rat.le_of_lt hl) (Rat.le_of_lt h5)) (Rat.mul_le_mul_of_nonneg_right (Rat.le_of_lt hl) (Rat.le_of_lt (p2_pos (-1000))))
  rw[← p2_add]at h6
  have h7:=p2_le (show (-1000+-1000:Int)≤-1001 by decide); have h8:=p2_half (-1000)
  rw[show (-1000-1:Int)=-1001 by decide]at h8
  grind
 have hvabs:v.abs=v:=Rat.abs_of_nonneg (Rat.le_of_lt h5)
 obtain⟨z,g1,g2⟩:=number_is (s:=false) (m:=k) (i:=e) (by rw[hd,hvabs];exact hvlt)
 rw[hd]at g2
 have hD:(z-v).abs≤v*(2:Rat)^(-53:Int):=by
  rcases g2.near with h|h
  ·rwa [hvabs]at h
  ·have h6:=Rat.mul_le_mul_of_nonneg_right hvgt (Rat.le_of_lt p53)
   rw[← p2_add]at h6
   have h7:=p2_le (show (-1075:Int)≤-1000+-53 by decide); grind
 refine⟨_,z,?_,g1,?_,?_⟩
 ·show Format.sqrt double a=_; unfold Format.sqrt
  rw[h1]
  have:double.fractionBits+2=54:=by decide
  rw[this,h3]
  rfl
 ·have h6:=abs_le_iff.1 hD; have h7:=Rat.mul_le_mul_of_nonneg_left e53 (Rat.le_of_lt h5); grind
 ·have h6:=abs_le_iff.1 hD; generalize (2:Rat)^(-53:Int)=ep at *
  rw[e51]
  generalize hDD:z-v=D at *
  have hz:z=v+D:=by grind
  have h7:=Rat.mul_le_mul_of_nonneg_left h6.1 (Rat.le_of_lt h5); have h8:=Rat.mul_le_mul_of_nonneg_left h6.2 (Rat.le_of_lt h5); have h9:=Rat.mul_nonneg (show 0≤v*ep-D by grind) (show 0≤v*ep+D by grind); have h10:=Rat.mul_le_mul_of_nonneg_left e53 (Rat.mul_nonneg (Rat.mul_nonneg (Rat.le_of_lt h5) (Rat.le_of_lt h5)) (Rat.le_of_lt p53)); have h11:0≤D*D:=by
   rcases(Rat.le_total:0≤D∨D≤0) with h|h
   ·exact Rat.mul_nonneg h h
   ·have:=Rat.mul_nonneg (show 0≤-D by grind) (show 0≤-D by grind);grind
  have h12:v*v≤x+x*ep:=by grind
  have h13:=Rat.mul_le_mul_of_nonneg_right h12 (Rat.le_of_lt p53); have h14:=Rat.mul_le_mul_of_nonneg_left e53 (Rat.mul_nonneg (Rat.le_of_lt hx) (Rat.le_of_lt p53))
  rw[abs_le_iff,hz]
  constructor<;>grind
theorem bindF_eq {R:Type} {o:Option Nat} {n:Nat} {k:Nat→Option R} (h:o=some n):bindF o k=k n:=by subst h;simp[bindF,forceN_eq]
theorem int_abs_lt {n:Int} (h:n.natAbs<2^53):((n:Rat)).abs<(2:Rat)^(1023:Int):=by
 have h1:((n:Rat)).abs=((n.natAbs:Nat):Rat):=by
  have:=dv_abs (decide (n<0)) n.natAbs 0
  rw[int_dv n (decide (n<0)) 0 fun _=>rfl]at this
  simpa using this
 rw[h1]
 have h2:((n.natAbs:Nat):Rat)<((2^53:Nat):Rat):=nat_cast_lt h; have h3:(2:Rat)^(53:Int)=((2^53:Nat):Rat):=p2_nat 53; have h4:(2:Rat)^(53:Int)≤(2:Rat)^(1023:Int):=p2_le (by decide); grind
theorem rnd_int {n:Int} {z:Rat} (h:n.natAbs<2^53) (hr:Rnd (n:Rat) z):z=n:=hr.rep n 0 h (by decide) (by simp)
theorem sub_int {a b:Nat} {x y:Int} (ha:Is a x) (hb:Is b y) (h:(x-y).natAbs<2^53):∃ r,fbF .sub a b=some r∧Is r ((x-y:Int):Rat):=by
 have e:((x-y:Int):Rat)=(x:Rat)-y:=by push_cast;rfl
 obtain⟨r,z,h1,h2,h3⟩:=sub_is ha hb (by rw[← e];exact int_abs_lt h)
 rw[← e]at h3
 rw[rnd_int h h3]at h2
 exact⟨r,h1,h2⟩
theorem mul_int {a b:Nat} {x y:Int} (ha:Is a x) (hb:Is b y) (h:(x*y).natAbs<2^53):∃ r,fbF .mul a b=some r∧Is r ((x*y:Int):Rat):=by
 have e:((x*y:Int):Rat)=(x:Rat)*y:=by push_cast;rfl
 obtain⟨r,z,h1,h2,h3⟩:=mul_is ha hb (by rw[← e];exact int_abs_lt h)
 rw[← e]at h3
 rw[rnd_int h h3]at h2
 exact⟨r,h1,h2⟩
theorem is_zero:Is 0 ((0:Int):Rat):=⟨by decide,false,0,-1074,by decide,dv_zero _ _⟩
theorem eqF_is {a b:Nat} {x y:Rat} (ha:Is a x) (hb:Is b y):eqF a b=decide (x=y):=by
 unfold eqF
 rw[order_is ha hb]
 by_cases h1:x<y
 ·have:¬ x=y:=by grind
  simp[h1,this]
 ·by_cases h2:x=y
  ·subst h2; simp[h1]
  ·simp[h1,h2]
theorem neF_is {a b:Nat} {x y:Rat} (ha:Is a x) (hb:Is b y):neF a b=!decide (x=y):=by
 rw[← eqF_is ha hb];unfold neF eqF;rfl
theorem leF_is {a b:Nat} {x y:Rat} (ha:Is a x) (hb:Is b y):leF a b=decide (x≤y):=by
 unfold leF
 rw[order_is ha hb]
 by_cases h1:x<y
 ·have:x≤y:=by grind
  simp[h1,this]
 ·by_cases h2:x=y
  ·subst h2; simp[h1]
  ·have:¬ x≤y:=by grind
   simp[h1,h2,this]
theorem int_eq_iff {x y:Int}:((x:Rat)=(y:Rat))↔x=y:=by
 constructor
 ·intro h;exact_mod_cast h
 ·rintro rfl;rfl
def IsC (a b:Nat) (x y:Int):Prop:=Is a x∧Is b y
theorem subK_int {a b c d:Nat} {x y u v:Int} (h1:IsC a b x y) (h2:IsC c d u v) (b1:(x-u).natAbs<2^53) (b2:(y-v).natAbs<2^53):
  ∃ p q,IsC p q (x-u) (y-v)∧∀(R:Type) (k:Nat→Nat→Option R),subK R a b c d k=k p q:=by
 obtain⟨p,e1,g1⟩:=sub_int h1.1 h2.1 b1
 obtain⟨q,e2,g2⟩:=sub_int h1.2 h2.2 b2
 exact⟨p,q,⟨g1,g2⟩,fun R k=>by unfold subK;rw[bindF_eq e1,bindF_eq e2]⟩
theorem noughtK_int {a b:Nat} {x y:Int} (h:IsC a b x y) {R:Type} (k:Bool→Option R):noughtK R a b k=k (decide (x=0∧y=0)):=by
 unfold noughtK
 rw[forceB_eq,eqF_is h.1 is_zero]
 by_cases h1:x=0
 ·subst h1; simp only[decide_true]
  rw[forceB_eq,eqF_is h.2 is_zero]
  by_cases h2:y=0
  ·subst h2;simp
  ·simp[h2]
 ·have:¬ ((x:Rat)=((0:Int):Rat)):=fun e=>h1 (int_eq_iff.1 e)
  simp[h1]
theorem absW_eq (a:Nat):absW a=a % 2^63:=by
 unfold absW; have h1:((BitVec.ofInt 64 a &&& ~~~(BitVec.ofInt 64 9223372036854775808)).toNat:Nat)=a % 2^63:=by
  have e1:BitVec.ofInt 64 a=BitVec.ofNat 64 a:=by simp
  have e2:(~~~(BitVec.ofInt 64 9223372036854775808))=BitVec.ofNat 64 (2^63-1):=by decide
  rw[e1,e2,BitVec.toNat_and,BitVec.toNat_ofNat,BitVec.toNat_ofNat]
  rw[show (2^63-1) % 2^64=2^63-1 by decide,Nat.and_two_pow_sub_one_eq_mod]
  omega
 rw[h1]
 have h2:a % 2^63<2^63:=Nat.mod_lt _ (by decide); have h3:IntKind.u64.wrap ((a % 2^63:Nat):Int)=((a % 2^63:Nat):Int):=by
  unfold IntKind.wrap; simp[IntKind.bits,IntKind.signed]; omega
 rw[h3]
 rfl
theorem abs_is {a:Nat} {x:Rat} (h:Is a x):Is (absW a) x.abs:=by
 obtain⟨hw,s,m,i,h1,rfl⟩:=h
 refine⟨by rw[absW_eq];omega,false,m,i,?_,by rw[dv_abs];unfold dv sg;simp⟩
 rw[absW_eq]
 have e1:double.signWeight=2^63:=by decide
 unfold Format.read at *
 simp only[e1]at h1 ⊢
 rw[Nat.mod_mod]
 have:(a % 2^63/2^63 % 2 == 1)=false:=by
  rw[Nat.div_eq_of_lt (Nat.mod_lt _ (by decide))];rfl
 rw[this]
 split at h1
 ·rename_i hc; simp only[hc,if_true]; injection h1 with g1 g2 g3
  rw[g2,g3]
 ·split at h1
  ·rename_i hc1 hc; simp only[hc,if_true,hc1,if_false]; injection h1 with g1 g2 g3
   rw[g2,g3]
  ·split at h1<;>cases h1
theorem is_p40:Is 4787326403894837248 ((2^40:Int):Rat):=by
 refine⟨by decide,false,2^52,-12,by decide,?_⟩
 have h1:((2^52:Nat):Rat)=(2:Rat)^((52:Nat):Int):=(p2_nat 52).symm; have h2:((2^40:Int):Rat)=(2:Rat)^((40:Nat):Int):=by
  rw[p2_nat]
  exact congrArg (fun z:Int=>(z:Rat)) (by decide:(2^40:Int)=((2^40:Nat):Int))
 unfold dv sg
 rw[h1,h2,← p2_add,if_neg (by decide),Rat.one_mul]
 rfl
theorem int_abs_le {n:Int} {N:Nat} (h:n.natAbs≤N):((n:Rat)).abs≤((N:Int):Rat):=by
 rw[abs_le_iff]
 constructor
 ·have:(-(N:Int))≤n:=by omega
  have h2:((-(N:Int):Int):Rat)≤(n:Rat):=by exact_mod_cast this
  push_cast at h2 ⊢; exact h2
 ·have:n≤(N:Int):=by omega
  exact_mod_cast this
def withinK:KFFB:=withinB absK
def WithinK:KCFB:=WithinB withinK
def placeK:KCB:=placeB WithinK
theorem withinK_int {a:Nat} {x:Int} (h:Is a x) (hb:x.natAbs≤2^40) {R:Type} (k:Bool→Option R):withinK R a 4787326403894837248 k=k true:=by
 unfold withinK withinB absK; show forceB (leF (absW a) 4787326403894837248) (fun t=>k t)=k true
 rw[forceB_eq,leF_is (abs_is h) is_p40]
 have:((x:Rat)).abs≤((2^40:Int):Rat):=int_abs_le (N:=2^40) hb
 simp only[this,decide_true]
theorem placeK_int {a b:Nat} {x y:Int} (h:IsC a b x y) (h1:x.natAbs≤2^40) (h2:y.natAbs≤2^40) {R:Type} (k:Bool→Option R):placeK R a b k=k true:=by
 unfold placeK placeB WithinK WithinB
 rw[withinK_int h.1 h1,forceB_eq]
 simp only
 rw[withinK_int h.2 h2]
 simp only[forceB_eq]
theorem read_bounds {w:Nat} {s:Bool} {m:Nat} {i:Int} (h:double.read w=.number s m i):m<2^53∧-1074≤i∧i≤971:=by
 have e1:double.signWeight=2^63:=by decide
 have e2:double.binade=2^52:=by decide
 have e3:double.infRung=2047*2^52:=by decide
 have e4:double.leastPlace=-1074:=by decide
 unfold Format.read at h; simp only[e1,e2,e3,e4]at h; split at h
 ·injection h with h1 h2 h3
  omega
 ·split at h
  ·injection h with h1 h2 h3
   have:=Nat.mod_lt (w % 2^63) (show 0<2^52 by decide)
   have h5:w % 2^63/2^52<2047:=by omega
   omega
  ·split at h<;>cases h
theorem is_rep {a:Nat} {x:Rat} (h:Is a x):∃(K:Int) (q:Int),K.natAbs<2^53∧-1074≤q∧q≤971∧x=K*(2:Rat)^q:=by
 obtain⟨_,s,m,i,h1,rfl⟩:=h
 obtain⟨b1,b2,b3⟩:=read_bounds h1
 refine⟨if s then -(m:Int) else m,i,?_,b2,b3,?_⟩
 ·split<;>omega
 ·unfold dv sg; cases s
  ·simp only[Bool.false_eq_true,if_false]
   have:((m:Int):Rat)=(m:Rat):=by norm_cast
   rw[this];grind
  ·simp only[if_true];push_cast;grind
theorem normal_fields {y:Nat} {v:Rat} (h:Is y v) (hv:(2:Rat)^(-1022:Int)≤v.abs):
  ∃(s:Bool) (E f:Nat),y=(if s then 2^63 else 0)+E*2^52+f∧1≤E∧E≤2046∧f<2^52∧v=dv s (2^52+f) ((E:Int)-1075):=by
 obtain⟨hw,s,m,i,h1,h2⟩:=h
 have e1:double.signWeight=2^63:=by decide
 have e2:double.binade=2^52:=by decide
 have e3:double.infRung=2047*2^52:=by decide
 have e4:double.leastPlace=-1074:=by decide
 unfold Format.read at h1; simp only[e1,e2,e3,e4]at h1; split at h1
 ·exfalso; rename_i hlt; injection h1 with g1 g2 g3
  subst g3
  rw[← h2,dv_abs]at hv
  have h5:(m:Rat)<((2^52:Nat):Rat):=nat_cast_lt (by omega); have h6:=Rat.mul_lt_mul_of_pos_right h5 (p2_pos (-1074)); have h7:(2:Rat)^(52:Int)=((2^52:Nat):Rat):=p2_nat 52
  rw[← h7,← p2_add,show (52+-1074:Int)=-1022 by decide]at h6
  grind
 ·split at h1
  ·rename_i hge hlt; injection h1 with g1 g2 g3
   refine⟨s,y % 2^63/2^52,y % 2^63 % 2^52,?_,by omega,by omega,Nat.mod_lt _ (by decide),?_⟩
   ·have hs:(y/2^63 % 2 == 1)=s:=g1; cases s
    ·simp only[Bool.false_eq_true,if_false]
     have:¬ (y/2^63 % 2=1):=by simpa using hs
     omega
    ·simp only[if_true]
     have:y/2^63 % 2=1:=by simpa using hs
     omega
   ·rw[← h2,← g2,← g3]
    congr 1
    omega
  ·split at h1<;>cases h1
theorem fields_is {s:Bool} {E f:Nat} (h1:1≤E) (h2:E≤2046) (hf:f<2^52):Is ((if s then 2^63 else 0)+E*2^52+f) (dv s (2^52+f) ((E:Int)-1075)):=by
 have:=is_rung (s:=s) (t:=E-1) (k:=2^52+f) (by omega) (.inr (by omega)) (by omega)
 have e1:double.signWeight=2^63:=by decide
 have e:double.word s ((E-1)*2^52+(2^52+f))=(if s then 2^63 else 0)+E*2^52+f:=by
  unfold Format.word
  rw[e1]
  have:(E-1)*2^52+(2^52+f)=E*2^52+f:=by omega
  cases s
  ·simp only[Bool.false_eq_true,if_false];omega
  ·simp only[if_true];omega
 rw[e,show (-1074+((E-1:Nat):Int))=(E:Int)-1075 by omega]at this
 exact this
theorem wrapI {n:Int} (h1:-9223372036854775808≤n) (h2:n<9223372036854775808):IntKind.i64.wrap n=n:=by
 unfold IntKind.wrap; simp[IntKind.bits,IntKind.signed]; split<;>omega
theorem wrapU {n:Int} (h1:0≤n) (h2:n<18446744073709551616):IntKind.u64.wrap n=n:=by
 unfold IntKind.wrap; simp only[IntKind.bits,IntKind.signed,Bool.false_and,Bool.false_eq_true,if_false]; omega
theorem bv_nat (a:Nat) (h:a<2^64):(BitVec.ofInt 64 (a:Int)).toNat=a:=by
 have:BitVec.ofInt 64 (a:Int)=BitVec.ofNat 64 a:=by simp
 rw[this,BitVec.toNat_ofNat]
 exact Nat.mod_eq_of_lt h
theorem andU_eq {a b:Nat} (ha:a<2^64) (hb:b<2^64):andU a b=((a &&& b:Nat):Int):=by
 unfold andU
 rw[BitVec.toNat_and,bv_nat a ha,bv_nat b hb]
 have:a &&& b≤a:=Nat.and_le_left
 exact wrapU (by omega) (by omega)
theorem andI_eq {a b:Nat} (ha:a<2^63) (hb:b<2^64):andI a b=((a &&& b:Nat):Int):=by
 unfold andI
 rw[BitVec.toNat_and,bv_nat a (by omega),bv_nat b hb]
 have:a &&& b≤a:=Nat.and_le_left
 exact wrapI (by omega) (by omega)
theorem orU_eq {a b:Nat} (ha:a<2^64) (hb:b<2^64):orU a b=((a ||| b:Nat):Int):=by
 unfold orU
 rw[BitVec.toNat_or,bv_nat a ha,bv_nat b hb]
 have:a ||| b<2^64:=Nat.or_lt_two_pow ha hb
 exact wrapU (by omega) (by omega)
theorem andNotU_eq {a b:Nat} (ha:a<2^64) (hb:b<2^64):andNotU a b=((a &&& (2^64-1-b):Nat):Int):=by
 unfold andNotU
 rw[BitVec.toNat_and,BitVec.toNat_not,bv_nat a ha,bv_nat b hb]
 have:a &&& (2^64-1-b)≤a:=Nat.and_le_left
 exact wrapU (by omega) (by omega)
theorem shrU_eq {y:Nat}:shrU y 52=((y/2^52:Nat):Int):=by
 unfold shrU
 have:(2:Int)^min (52:Int).toNat IntKind.u64.bits=4503599627370496:=by decide
 rw[this]
 have h:(2:Nat)^52=4503599627370496:=by decide
 rw[h,Int.fdiv_eq_ediv_of_nonneg _ (by decide)]
 omega
theorem shlU_eq {n:Nat} (h:n<2^12):shlU n 52=((n*2^52:Nat):Int):=by
 unfold shlU
 have:(2:Int)^min (52:Int).toNat IntKind.u64.bits=4503599627370496:=by decide
 rw[this]
 have h2:(2:Nat)^52=4503599627370496:=by decide
 rw[h2]
 rw[wrapU (by omega) (by omega)]
 omega
end Go.Vm
