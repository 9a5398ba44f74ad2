/- A part of the evaluator and of what is told of floats; no conditions. -/
import Derived.Test.YtaogignikkjkjaaGreatVmKL
import Derived.Test.YtaogignikkjkjaaGreatVmLP
import Derived.Test.YtaogignikkjkjaaGreatProg
set_option linter.unusedSimpArgs false
set_option linter.unusedVariables false
set_option maxRecDepth 1000000
set_option linter.unusedSectionVars false
namespace Go.Vm
open Ieee
theorem gtF_is {a b:Nat} {x y:Rat} (ha:Is a x) (hb:Is b y):gtF a b=decide (y<x):=by
 unfold gtF
 rw[order_is ha hb]
 by_cases h1:x<y
 ·have:¬ y<x:=by grind
  simp[h1,this]
 ·by_cases h2:x=y
  ·subst h2;simp[h1]
  ·have:y<x:=by grind
   simp[h1,h2,this]
theorem ltF_is {a b:Nat} {x y:Rat} (ha:Is a x) (hb:Is b y):ltF a b=decide (x<y):=by
 unfold ltF
 rw[order_is ha hb]
 by_cases h1:x<y
 ·simp[h1]
 ·by_cases h2:x=y
  ·subst h2;simp[h1]
  ·simp[h1,h2]
theorem geF_is {a b:Nat} {x y:Rat} (ha:Is a x) (hb:Is b y):geF a b=decide (y≤x):=by
 unfold geF
 rw[order_is ha hb]
 by_cases h1:x<y
 ·have:¬ y≤x:=by grind
  simp[h1,this]
 ·by_cases h2:x=y
  ·subst h2;simp[h1]
  ·have:y≤x:=by grind
   simp[h1,h2,this]
theorem int_abs (K:Int):((K:Rat)).abs=((K.natAbs:Nat):Rat):=by
 have:=dv_abs (decide (K<0)) K.natAbs 0
 rw[int_dv K (decide (K<0)) 0 fun _=>rfl]at this
 simpa using this
theorem p2_abs (q:Int):((2:Rat)^q).abs=(2:Rat)^q:=Rat.abs_of_nonneg (Rat.le_of_lt (p2_pos q))
theorem is_max:Is 9218868437227405311 (((2^53-1:Nat):Rat)*(2:Rat)^(971:Int)):=by
 refine⟨by decide,false,2^53-1,971,by decide,?_⟩
 unfold dv sg
 rw[if_neg (by decide),Rat.one_mul]
theorem abs_le_max {a:Nat} {x:Rat} (h:Is a x):x.abs≤((2^53-1:Nat):Rat)*(2:Rat)^(971:Int):=by
 obtain⟨K,q,h1,h2,h3,rfl⟩:=is_rep h
 rw[abs_mul,int_abs,p2_abs]
 have f1:((K.natAbs:Nat):Rat)≤((2^53-1:Nat):Rat):=nat_cast_le (by omega); have f2:=Rat.mul_le_mul_of_nonneg_right f1 (Rat.le_of_lt (p2_pos q)); have f3:=Rat.mul_le_mul_of_nonneg_left (p2_le h3) (show (0:Rat)≤((2^53-1:Nat):Rat) by exact_mod_cast Nat.zero_le _); exact Rat.le_trans f2 f3
def isInfK:KFB:=isInfB absK
def finiteK:KFB:=finiteB absK
def FiniteK:KCB:=FiniteB finiteK
def normK:KFFI:=normB absK
def frexpK:KFFI:=frexpB fiReal isInfK isNanK normK
def ldexpK:KFIF:=ldexpB fiReal copyK isInfK isNanK normK
def scaleK:KFIF:=scaleB ldexpK
def greatestK:KCF:=greatestB absK
def scaledK:KCCI:=scaledB greatestK frexpK scaleK
def sqrtK:KFF:=fun R a k=>bindF (double.sqrt a) k
def lengthK:KCF:=lengthB isInfK isNanK greatestK scaledK squareK sqrtK scaleK
def nearK:KCCFB:=nearB subK lengthK
def divK:KCCC:=divB absK
theorem isInfK_no {a:Nat} {x:Rat} (h:Is a x) {R:Type} (k:Bool→Option R):isInfK R a k=k false:=by
 show forceB (gtF (absW a) 9218868437227405311) (fun t=>k t)=k false
 rw[forceB_eq,gtF_is (abs_is h) is_max]
 have:=abs_le_max h
 have:¬ (((2^53-1:Nat):Rat)*(2:Rat)^(971:Int)<x.abs):=by grind
 simp only[this,decide_false]
theorem isNanK_no {a:Nat} {x:Rat} (h:Is a x) {R:Type} (k:Bool→Option R):isNanK R a k=k false:=by
 unfold isNanK
 rw[forceB_eq,neF_is h h]
 simp
theorem finiteK_yes {a:Nat} {x:Rat} (h:Is a x) {R:Type} (k:Bool→Option R):finiteK R a k=k true:=by
 show forceB (leF (absW a) 9218868437227405311) (fun t=>k t)=k true
 rw[forceB_eq,leF_is (abs_is h) is_max]
 simp only[abs_le_max h,decide_true]
theorem FiniteK_yes {a b:Nat} {x y:Rat} (h:Is a x) (g:Is b y) {R:Type} (k:Bool→Option R):FiniteK R a b k=k true:=by
 unfold FiniteK FiniteB
 rw[finiteK_yes h,forceB_eq]
 simp only
 rw[finiteK_yes g]
 simp only[forceB_eq]
theorem is_least:Is 4503599627370496 ((2:Rat)^(-1022:Int)):=by
 have:=fields_is (s:=false) (E:=1) (f:=0) (by decide) (by decide) (by decide)
 have e:dv false (2^52+0) (((1:Nat):Int)-1075)=(2:Rat)^(-1022:Int):=by
  unfold dv sg
  rw[if_neg (by decide),Rat.one_mul,Nat.add_zero,← p2_nat,← p2_add]
  rfl
 rw[e]at this
 exact this
theorem is_p52:Is 4841369599423283200 ((2:Rat)^(52:Int)):=by
 have:=fields_is (s:=false) (E:=1075) (f:=0) (by decide) (by decide) (by decide)
 have e:dv false (2^52+0) (((1075:Nat):Int)-1075)=(2:Rat)^(52:Int):=by
  unfold dv sg
  rw[if_neg (by decide),Rat.one_mul,Nat.add_zero,← p2_nat,← p2_add]
  rfl
 rw[e]at this
 exact this
theorem is_m53:Is 4368491638549381120 ((2:Rat)^(-53:Int)):=by
 have:=fields_is (s:=false) (E:=970) (f:=0) (by decide) (by decide) (by decide)
 have e:dv false (2^52+0) (((970:Nat):Int)-1075)=(2:Rat)^(-53:Int):=by
  unfold dv sg
  rw[if_neg (by decide),Rat.one_mul,Nat.add_zero,← p2_nat,← p2_add]
  rfl
 rw[e]at this
 exact this
theorem is_one:Is 4607182418800017408 1:=by
 have:=fields_is (s:=false) (E:=1023) (f:=0) (by decide) (by decide) (by decide)
 have e:dv false (2^52+0) (((1023:Nat):Int)-1075)=1:=by
  unfold dv sg
  rw[if_neg (by decide),Rat.one_mul,Nat.add_zero,← p2_nat,← p2_add]
  exact Rat.zpow_zero 2
 rw[e]at this
 exact this
theorem p2_cancel (q:Int):(2:Rat)^q*(2:Rat)^(-q)=1:=by rw[← p2_add,show q+-q=0 by omega,Rat.zpow_zero]
theorem normK_def {R:Type} (a:Nat) (k:Nat→Int→Option R):normK R a k=forceB (ltF (absW a) 4503599627370496) fun t=>match t with
 |true=>bindF (fbF .mul a 4841369599423283200) fun y=>k y (-52)
 |false=>k a 0:=rfl
theorem normK_is {a:Nat} {x:Rat} (h:Is a x) (hx:x≠0):∃(y:Nat) (e:Int),(e=0∨e=-52)∧Is y (x*(2:Rat)^(-e))∧(2:Rat)^(-1022:Int)≤(x*(2:Rat)^(-e)).abs∧
  ∀(R:Type) (k:Nat→Int→Option R),normK R a k=k y e:=by
 by_cases hs:x.abs<(2:Rat)^(-1022:Int)
 ·obtain⟨K,q,k1,k2,k3,hK⟩:=is_rep h
  have hlt:(x*(2:Rat)^(52:Int)).abs<(2:Rat)^(1023:Int):=by
   rw[abs_mul,p2_abs]
   have:=Rat.mul_lt_mul_of_pos_right hs (p2_pos 52)
   rw[← p2_add]at this
   have h2:=p2_le (show (-1022+52:Int)≤1023 by decide); grind
  obtain⟨y,z,e1,e2,e3⟩:=mul_is h is_p52 hlt
  have hz:z=x*(2:Rat)^(52:Int):=e3.rep K (q+52) k1 (by omega) (by rw[hK,p2_add];grind)
  rw[hz]at e2
  refine⟨y,-52,.inr rfl,by simpa using e2,?_,fun R k=>?_⟩
  ·have hK0:1≤K.natAbs:=by
    rcases Nat.eq_zero_or_pos K.natAbs with h0|h0
    ·have:K=0:=by omega
     subst this; exact absurd (by rw[hK];simp) hx
    ·exact h0
   have f1:((1:Nat):Rat)≤((K.natAbs:Nat):Rat):=nat_cast_le hK0; have f2:=Rat.mul_le_mul_of_nonneg_right f1 (Rat.le_of_lt (p2_pos q))
   rw[show (-(-52:Int))=52 by decide,abs_mul,p2_abs,hK,abs_mul,int_abs,p2_abs]
   have f3:=Rat.mul_le_mul_of_nonneg_right f2 (Rat.le_of_lt (p2_pos 52)); have f4:((1:Nat):Rat)*(2:Rat)^q*(2:Rat)^(52:Int)=(2:Rat)^(q+52):=by rw[p2_add];simp
   rw[f4]at f3
   exact Rat.le_trans (p2_le (by omega)) f3
  ·rw[normK_def,forceB_eq,ltF_is (abs_is h) is_least]
   simp only[hs,decide_true]
   rw[bindF_eq e1]
 ·refine⟨a,0,.inl rfl,by simpa using h,?_,fun R k=>?_⟩
  ·simp only[Int.neg_zero,Rat.zpow_zero,Rat.mul_one]
   grind
  ·rw[normK_def,forceB_eq,ltF_is (abs_is h) is_least]
   simp only[hs,decide_false]
theorem expo_eq {s:Bool} {E f:Nat} (hE:E≤2046) (hf:f<2^52):andU (shrU ((((if s then 2^63 else 0)+E*2^52+f:Nat)):Int) 52) 2047=(E:Int):=by
 have h1:((if s then 2^63 else 0)+E*2^52+f)/2^52=(if s then 2048 else 0)+E:=by
  cases s
  ·simp only[Bool.false_eq_true,if_false];omega
  ·simp only[if_true];omega
 rw[shrU_eq,h1]
 have h2:=andU_eq (a:=(if s then 2048 else 0)+E) (b:=2047) (by split<;>omega) (by decide); have h3:((if s then 2048 else 0)+E) &&& 2047=E:=by
  have:=Nat.and_two_pow_sub_one_eq_mod ((if s then 2048 else 0)+E) 11
  rw[show 2^11-1=2047 by decide]at this
  rw[this]
  cases s
  ·simp only[Bool.false_eq_true,if_false];omega
  ·simp only[if_true];omega
 rw[h3]at h2
 exact h2
theorem dv_band {s:Bool} {E f:Nat} (hf:f<2^52):(2:Rat)^((E:Int)-1023)≤(dv s (2^52+f) ((E:Int)-1075)).abs∧(dv s (2^52+f) ((E:Int)-1075)).abs<(2:Rat)^((E:Int)-1022):=by
 rw[dv_abs]
 have h1:((2^52:Nat):Rat)≤((2^52+f:Nat):Rat):=nat_cast_le (by omega); have h2:((2^52+f:Nat):Rat)<((2^53:Nat):Rat):=nat_cast_lt (by omega); have e1:(2:Rat)^((52:Nat):Int)=((2^52:Nat):Rat):=p2_nat 52; have e2:(2:Rat)^((53:Nat):Int)=((2^53:Nat):Rat):=p2_nat 53; have g1:=Rat.mul_le_mul_of_nonneg_right h1 (Rat.le_of_lt (p2_pos ((E:Int)-1075))); have g2:=Rat.mul_lt_mul_of_pos_right h2 (p2_pos ((E:Int)-1075))
 rw[← e1,← p2_add,show ((52:Nat):Int)+((E:Int)-1075)=(E:Int)-1023 by omega]at g1
 rw[← e2,← p2_add,show ((53:Nat):Int)+((E:Int)-1075)=(E:Int)-1022 by omega]at g2
 exact⟨g1,g2⟩
theorem frexpK_is {a:Nat} {x:Rat} (h:Is a x) (hx:x≠0):∃(w:Nat) (n:Int),(2:Rat)^(n-1)≤x.abs∧x.abs<(2:Rat)^n∧-1100≤n∧n≤1024∧
  ∀(R:Type) (k:Nat→Int→Option R),frexpK R a k=k w n:=by
 obtain⟨y,e,he,hy,hn,hk⟩:=normK_is h hx
 obtain⟨s,E,f,rfl,b1,b2,b3,hv⟩:=normal_fields hy hn
 obtain⟨d1,d2⟩:=dv_band (s:=s) (E:=E) b3
 rw[← hv,abs_mul,p2_abs]at d1 d2
 refine⟨(orU (andNotU ((((if s then 2^63 else 0)+E*2^52+f:Nat)):Int) 9218868437227405312) 4602678819172646912).toNat,e+(E-1022),?_,?_,by omega,by omega,fun R k=>?_⟩
 ·have:=Rat.mul_le_mul_of_nonneg_right d1 (Rat.le_of_lt (p2_pos e))
  rw[← p2_add,Rat.mul_assoc,Rat.mul_comm ((2:Rat)^(-e)),p2_cancel,Rat.mul_one,show (E:Int)-1023+e=e+(E-1022)-1 by omega]at this
  exact this
 ·have:=Rat.mul_lt_mul_of_pos_right d2 (p2_pos e)
  rw[← p2_add,Rat.mul_assoc,Rat.mul_comm ((2:Rat)^(-e)),p2_cancel,Rat.mul_one,show (E:Int)-1022+e=e+(E-1022) by omega]at this
  exact this
 ·unfold frexpK frexpB; have h0:¬ (x=((0:Int):Rat)):=by simpa using hx
  rw[forceB_eq,eqF_is h is_zero]
  simp only[h0,decide_false]
  rw[isInfK_no h,forceB_eq]
  simp only
  rw[isNanK_no h,forceB_eq]
  simp only
  rw[hk]
  unfold frexpTail expoOf
  rw[expo_eq b2 b3]
  simp only[fiReal_fair R]
  rw[wrapI (n:=(E:Int)) (by omega) (by omega),wrapI (n:=(E:Int)-1023) (by omega) (by omega),wrapI (n:=(E:Int)-1023+1) (by omega) (by omega)]
  rw[show (E:Int)-1023+1=(E:Int)-1022 by omega,wrapI (by omega) (by omega)]
def logK:KFF:=logB fiReal isInfPK frexpK oddK
def signK:KFB:=signB fiReal
def minusK:KFB:=minusB signK
def signedK:KFFF:=signedB minusK absK
def angleK:KFFF:=angleB absK isInfPK coreK minusK signedK
def powLogK:KCC:=powLogB lengthK logK angleK
abbrev KE1:=∀ R:Type,Int→Nat→Nat→Nat→Nat→Nat→Option R→Option R
def gtab:List (Nat×HSum)→FuncId→Option HSum
 |[],_=>none
 |(n,s)::r,f=>bif Nat.beq n f then some s else gtab r f
def risingR {R:Type} (r:Nat):List Nat→Nat→(Nat→Option R)→Option R
 |[],t,k=>k t
 |d::ds,t,k=>bindF (fbF .mul r t) fun a=>bindF (fbF .quo a d) fun b=>bindF (fbF .add 4607182418800017408 b) fun t=>risingR r ds t k
def risingL:List Nat:=[4623507967449235456,4622945017495814144,4622382067542392832,4621819117588971520,4621256167635550208,4620693217682128896,4619567317775286272,4618441417868443648,4617315517961601024,4616189618054758400,4613937818241073152,4611686018427387904,4607182418800017408]
def risingK:KFF:=fun R r k=>risingR r risingL 4607182418800017408 k
def sRising (g:KFF):Sum:=fun R args k=>match args with
 |[.float .f64 r,.int .i64 j]=>bif j == 1 then g R r fun x=>k (.float .f64 x) else none
 |_=>none
def expB (fi:Fi) (wh ris:KFF) (scal:KFIF):KFF:=fun R x k=>forceB (neF x x) fun t=>match t with
 |true=>k x
 |false=>forceB (gtF x 4649454594685214392) fun t=>match t with
  |true=>k 9218868437227405312
  |false=>forceB (ltF x 13873137573428325253) fun t=>match t with
   |true=>k 0
   |false=>bindF (fbF .mul x 4609176140021203710) fun y=>wh R y fun n=>bindF (fbF .mul n 4604418534311723008) fun a=>bindF (fbF .sub x a) fun b=>bindF (fbF .mul n 4461442080421002358) fun c=>
     bindF (fbF .sub b c) fun r=>ris R r fun t=>(floatToIntVal .f64 n .i64).bind fun i=>fi R i fun i=>scal R t i k
abbrev KFFI2:=∀ R:Type,Nat→(Nat→Int→Option R)→Option R
def lessK:KFFF:=fun R x m k=>bindF (fbF .mul m 4609753056924401664) fun a=>bindF (fbF .sub x a) fun x=>bindF (fbF .mul m 4454258360616747008) fun a=>bindF (fbF .sub x a) fun x=>
 bindF (fbF .mul m 4297306550709518336) fun a=>bindF (fbF .sub x a) k
def sLess (g:KFFF):Sum:=fun R args k=>match args with
 |[.float .f64 x,.float .f64 m,.float .f64 t]=>bif Nat.beq t 4607182418800017408 then g R x m fun x=>k (.float .f64 x) else none
 |_=>none
def quarterB (fi:Fi) (fit:KFB) (wh:KFF) (ls:KFFF):KFFI2:=fun R x k=>fit R x fun t=>forceB t fun t=>match t with
 |false=>none
 |true=>bindF (fbF .mul x 4603909380684499075) fun y=>wh R y fun m=>forceB (eqF m 0) fun t=>match t with
  |true=>k x 0
  |false=>ls R x m fun r=>(floatToIntVal .f64 m .i64).bind fun n=>fi R n fun n=>k r (andI n 3)
def turnB (q:KFFI2) (st:KFF2):KFF2:=fun R x k=>q R x fun y n=>st R y fun s c=>forceB (n == 3) fun t=>match t with
 |true=>forceN (Op.negFloat .f64 s) fun s1=>forceN (Op.negFloat .f64 c) fun c1=>forceN (Op.negFloat .f64 s1) fun s2=>k c1 s2
 |false=>forceB (n == 1) fun t=>match t with
  |true=>forceN (Op.negFloat .f64 s) fun s2=>k c s2
  |false=>forceB (n == 2) fun t=>match t with
   |true=>forceN (Op.negFloat .f64 s) fun s1=>forceN (Op.negFloat .f64 c) fun c1=>k s1 c1
   |false=>k s c
def cexpB (ex:KFF) (tn:KFF2):KCC:=fun R a b k=>ex R a fun e=>forceB (eqF b 0) fun t=>match t with
 |true=>k e b
 |false=>tn R b fun s c=>bindF (fbF .mul e c) fun x=>bindF (fbF .mul e s) fun y=>k x y
def realB (lg:KCC) (scl:KCFC) (ex:KCC):KCFC:=fun R a b p k=>forceB (eqF p 0) fun t=>match t with
 |true=>k 4607182418800017408 0
 |false=>lg R a b fun x y=>scl R x y p fun u v=>ex R u v k
abbrev KW:=∀ R:Type,Nat→Nat→Int→(Nat→Nat→Option R)→Option R
def sKW (g:KW):Sum:=fun R args k=>match args with
 |[.complex .f64 a b,.int .i64 n]=>g R a b n fun x y=>k (.complex .f64 x y)
 |_=>none
def wsteps {R:Type} (mul:KCCC) (a b:Nat):List Bool→Nat→Nat→(Nat→Nat→Option R)→Option R
 |[],x,y,k=>k x y
 |t::ts,x,y,k=>mul R x y x y fun x y=>match t with
  |true=>mul R x y a b fun x y=>wsteps mul a b ts x y k
  |false=>wsteps mul a b ts x y k
def wbits:Nat→List Bool
 |2=>[false]|3=>[true]|4=>[false,false]|5=>[false,true]|6=>[true,false]|7=>[true,true]|8=>[false,false,false]|9=>[false,false,true]|10=>[false,true,false]|_=>[]
def valP (chk:KEI) (re no:KCB) (sub:KCCC) (kind:Int) (p:Nat) {R:Type} (pre:Option R→Option R) (a1 a2 s1 s2 z1 z2:Nat) (er:Int→Option R) (at0 leaf:Nat→Nat→Option R):Option R:=
 chk R kind a1 a2 s1 s2 p fun e=>match decide (e=0) with
  |false=>er e
  |true=>re R z1 z2 fun t=>forceB t fun t=>match t with
   |false=>er 5
   |true=>pre (sub R z1 z2 a1 a2 fun d1 d2=>no R d1 d2 fun t=>forceB t fun t=>match t with
    |true=>at0 d1 d2
    |false=>leaf d1 d2)
def valO (chk:KEI) (re no:KCB) (sub:KCCC) (scl:KCFC) {R:Type} (a1 a2 s1 s2 p z1 z2:Nat) (er:Int→Option R) (leaf:Nat→Nat→Nat→Nat→Option R):Option R:=
 chk R 2 a1 a2 s1 s2 p fun e=>match decide (e=0) with
  |false=>er e
  |true=>re R z1 z2 fun t=>forceB t fun t=>match t with
   |false=>er 5
   |true=>scl R s1 s2 4594902181429758083 fun c1 c2=>sub R z1 z2 a1 a2 fun d1 d2=>no R d1 d2 fun t=>forceB t fun t=>match t with
    |true=>er 6
    |false=>leaf c1 c2 d1 d2
def sWhY (g:∀ R:Type,Nat→Option R→Option R):Sum:=fun R args k=>match args with
 |[.float .f64 p]=>g R p (k (.bool true))
 |_=>none
def sWhN (g:∀ R:Type,Nat→Option R→Option R):Sum:=fun R args k=>match args with
 |[.float .f64 p]=>g R p (k (.bool false))
 |_=>none
def leafD (div:KCCC) (scl:KCFC) (W:KW) (times:Option Nat) (n:Int) {R:Type} (s1 s2 d1 d2:Nat) (k:Nat→Nat→Option R):Option R:=
 match times with
 |none=>W R d1 d2 n fun w1 w2=>div R s1 s2 w1 w2 k
 |some f=>scl R s1 s2 f fun s1 s2=>W R d1 d2 n fun w1 w2=>div R s1 s2 w1 w2 k
def leafC (mul:KCCC) (scl:KCFC) (W:KW) (times:Option Nat) (n:Int) {R:Type} (s1 s2 d1 d2:Nat) (k:Nat→Nat→Option R):Option R:=
 match times with
 |none=>W R d1 d2 n fun w1 w2=>mul R s1 s2 w1 w2 k
 |some f=>scl R s1 s2 f fun s1 s2=>W R d1 d2 n fun w1 w2=>mul R s1 s2 w1 w2 k
def leafB1 (mul:KCCC) (scl real:KCFC) {R:Type} (p s1 s2 d1 d2:Nat) (k:Nat→Nat→Option R):Option R:=
 scl R s1 s2 p fun s1 s2=>bindF (fbF .sub p 4607182418800017408) fun q=>real R d1 d2 q fun w1 w2=>mul R s1 s2 w1 w2 k
def midB {R:Type} (n p:Nat) (er:Int→Option R):Option R:=forceB (ltF p n) fun t=>match t with|true=>er 6|false=>er 0
abbrev KVal:=∀ R:Type,Int→Nat→Nat→Nat→Nat→Nat→Nat→Nat→(Nat→Nat→Int→Option R)→Option R
def sVal (g:KVal):Sum:=fun R args k=>match args with
 |[.agg ⟨[.int .u8 kind,.complex .f64 a1 a2,.complex .f64 s1 s2,.float .f64 p]⟩,.complex .f64 z1 z2]=>g R kind a1 a2 s1 s2 p z1 z2 fun x y e=>k (.tuple ⟨[.complex .f64 x y,.int .i64 e]⟩)
 |_=>none
abbrev GC:=∀ R:Type,List Value→Nat→(Nat→Nat→Option R)→Option R
abbrev GF:=∀ R:Type,List Value→Nat→(Nat→Option R)→Option R
abbrev GI:=∀ R:Type,List Value→Nat→(Int→Option R)→Option R
abbrev GII:=∀ R:Type,List Value→Nat→(Int→Int→Option R)→Option R
abbrev GEl:=∀ R:Type,List Value→Nat→(Int→Nat→Nat→Nat→Nat→Nat→Option R)→Option R
def gC (g:GC):Ld:=fun R cs off k=>g R cs off fun a b=>k (.complex .f64 a b)
def gI (kk:IntKind) (g:GI):Ld:=fun R cs off k=>g R cs off fun n=>k (.int kk n)
def gII (kk:IntKind) (g:GII):Ld:=fun R cs off k=>g R cs off fun m n=>k (.agg ⟨[.int kk m,.int kk n]⟩)
def elV (kind:Int) (a1 a2 s1 s2 p:Nat):Value:=.agg ⟨[.int .u8 kind,.complex .f64 a1 a2,.complex .f64 s1 s2,.float .f64 p]⟩
def gEl (g:GEl):Ld:=fun R cs off k=>g R cs off fun kind a1 a2 s1 s2 p=>k (elV kind a1 a2 s1 s2 p)
def rC:GC:=fun R cs off k=>match cs[off]? with|some (.complex .f64 a b)=>k a b|_=>none
def rF:GF:=fun R cs off k=>match cs[off]? with|some (.float .f64 a)=>k a|_=>none
def rI (kk:IntKind):GI:=fun R cs off k=>match cs[off]? with|some (.int kk' n)=>bif decide (kk'=kk) then k n else none|_=>none
def rII (kk:IntKind):GII:=fun R cs off k=>match cs.drop off with | .int k1 m::.int k2 n::_=>bif decide (k1=kk) && decide (k2=kk) then k m n else none|_=>none
def rEl:GEl:=fun R cs off k=>match cs.drop off with | .int .u8 kind::.complex .f64 a1 a2::.complex .f64 s1 s2::.float .f64 p::_=>k kind a1 a2 s1 s2 p|_=>none
def OneCell (P:Program) (t:TypeId):Prop:=∀(R:Type) (cs:List Value) (off:Nat) (k:Value→Option R),loadE P t cs off k=(cs[off]?).bind k
def MoreCells (P:Program) (t:TypeId) (n:Nat):Prop:=∀(R:Type) (cs:List Value) (off:Nat) (k:Value→Option R),loadE P t cs off k=bif Nat.ble (off+n) cs.length && true then k (.agg ⟨(cs.drop off).take n⟩) else none
theorem ldC_ok {P:Program} {t:TypeId} (h:OneCell P t):LdOk P t (gC rC):=fun R cs off k r hr=>by
 unfold gC rC at hr; split at hr
 ·rename_i a b hc
  exact⟨_,hr,fun R' k'=>by rw[h,hc];rfl⟩
 ·cases hr
theorem ldI_ok {P:Program} {t:TypeId} {kk:IntKind} (h:OneCell P t):LdOk P t (gI kk (rI kk)):=fun R cs off k r hr=>by
 unfold gI rI at hr; split at hr
 ·rename_i k1 n hc; by_cases hk:k1=kk
  ·rw[decide_eq_true hk]at hr
   subst hk
   exact⟨_,hr,fun R' k'=>by rw[h,hc];rfl⟩
  ·rw[decide_eq_false hk]at hr;cases hr
 ·cases hr
theorem more_len {cs l r:List Value} {off:Nat} (hc:cs.drop off=l++r) (hne:0<l.length):Nat.ble (off+l.length) cs.length=true∧(cs.drop off).take l.length=l:=by
 have h1:=congrArg List.length hc
 rw[List.length_drop,List.length_append]at h1
 refine⟨ble_eq_of (by omega),?_⟩
 rw[hc,List.take_left]
theorem ldII_ok {P:Program} {t:TypeId} {kk:IntKind} (h:MoreCells P t 2):LdOk P t (gII kk (rII kk)):=fun R cs off k r hr=>by
 unfold gII rII at hr; split at hr
 ·rename_i k1 m k2 n rest hc; by_cases hk:k1=kk∧k2=kk
  ·obtain⟨e1,e2⟩:=hk
   subst e1 e2; simp only[decide_true,Bool.and_self,cond_true]at hr
   obtain⟨g1,g2⟩:=more_len (l:=[.int _ m,.int _ n]) (r:=rest) hc (by simp)
   refine⟨_,hr,fun R' k'=>?_⟩
   simp only[List.length_cons,List.length_nil]at g1 g2
   rw[h,g1,g2];rfl
  ·cases hd:(decide (k1=kk) && decide (k2=kk)) with
   |true=>simp only[Bool.and_eq_true,decide_eq_true_eq]at hd;exact absurd hd hk
   |false=>rw[hd]at hr;cases hr
 ·cases hr
theorem ldEl_ok {P:Program} {t:TypeId} (h:MoreCells P t 4):LdOk P t (gEl rEl):=fun R cs off k r hr=>by
 unfold gEl rEl at hr; split at hr
 ·rename_i kind a1 a2 s1 s2 p rest hc
  obtain⟨g1,g2⟩:=more_len (l:=[.int .u8 kind,.complex .f64 a1 a2,.complex .f64 s1 s2,.float .f64 p]) (r:=rest) hc (by simp)
  refine⟨_,hr,fun R' k'=>?_⟩
  simp only[List.length_cons,List.length_nil]at g1 g2
  rw[h,g1,g2];rfl
 ·cases hr
def rSt:St:=fun R cs off vs k=>bif Nat.ble (off+vs.length) cs.length then k (splice cs off vs) else none
theorem rSt_ok:StOk rSt:=fun R cs off vs k r h=>by
 unfold rSt at h; cases hb:Nat.ble (off+vs.length) cs.length with
 |false=>rw[hb]at h;cases h
 |true=>rw[hb]at h;rw[Nat.ble_eq]at hb;exact⟨hb,h⟩
def rAp (P:Program):Ap:=fun R t cs n c cx off m k=>
 match P.underlying t with
 |some (.slice e)=>
  match P.info? e with
  |some i=>
   match i.zero with
   |some z=>
    bif Nat.blt 0 i.size && Nat.beq z.cells.size i.size && Nat.beq c n && Nat.blt 0 m && Nat.ble ((n+m)*i.bytes) 140737488355328 && Nat.ble (n+m) 1099511627776 && Nat.beq cs.length (n*i.size) && Nat.beq ((cx.drop off).take (m*i.size)).length (m*i.size) && allOne ((cx.drop off).take (m*i.size)) then
     k (cs++(cx.drop off).take (m*i.size))
    else none
   |none=>none
  |none=>none
 |_=>none
theorem rAp_ok (P:Program):ApOk P (rAp P):=fun R t cs n c cx off m k r h=>by
 unfold rAp at h; split at h
 case h_2=>cases h
 rename_i e hu; split at h
 case h_2=>cases h
 rename_i i hi; split at h
 case h_2=>cases h
 rename_i z hz; cases hb:(Nat.blt 0 i.size && Nat.beq z.cells.size i.size && Nat.beq c n && Nat.blt 0 m && Nat.ble ((n+m)*i.bytes) 140737488355328 && Nat.ble (n+m) 1099511627776 && Nat.beq cs.length (n*i.size) && Nat.beq ((cx.drop off).take (m*i.size)).length (m*i.size) && allOne ((cx.drop off).take (m*i.size))) with
 |false=>rw[hb]at h;cases h
 |true=>
  rw[hb]at h
  simp only[Bool.and_eq_true]at hb
  obtain⟨⟨⟨⟨⟨⟨⟨⟨b1,b2⟩,b3⟩,b4⟩,b5⟩,b6⟩,b7⟩,b8⟩,b9⟩:=hb
  rw[Nat.blt_eq]at b1 b4
  rw[Nat.ble_eq]at b5 b6
  exact⟨e,i,z,hu,hi,hz,b1,Nat.eq_of_beq_eq_true b2,Nat.eq_of_beq_eq_true b3,b4,b5,b6,Nat.eq_of_beq_eq_true b7,Nat.eq_of_beq_eq_true b8,b9,h⟩
def ltab:List (Nat×Ld)→TypeId→Option Ld
 |[],_=>none
 |(n,s)::r,f=>bif Nat.beq n f then some s else ltab r f
def mtab:List (Nat×MSum)→FuncId→Option MSum
 |[],_=>none
 |(n,s)::r,f=>bif Nat.beq n f then some s else mtab r f
inductive LdsOk (P:Program):List (Nat×Ld)→Prop
 |nil:LdsOk P []
 |cons {t:Nat} {g:Ld} {r:List (Nat×Ld)} (h:LdOk P t g) (hs:LdsOk P r):LdsOk P ((t,g)::r)
theorem lds_ok {P:Program} {t:Nat} {g:Ld}:∀{l:List (Nat×Ld)},LdsOk P l→ltab l t=some g→LdOk P t g
 |_,.nil,h=>by cases h
 |(u,s)::r,.cons h hs,hg=>by
  unfold ltab at hg; cases hb:Nat.beq u t with
  |true=>
   rw[hb]at hg
   cases hg
   have:=Nat.eq_of_beq_eq_true hb
   subst this; exact h
  |false=>rw[hb]at hg;exact lds_ok hs hg
def mmOf (lim:Nat→Bool) (ld:List (Nat×Ld)) (st:St) (ap:Ap):Mm:=⟨lim,ltab ld,st,ap⟩
theorem mmOf_ok {P:Program} {lim:Nat→Bool} {ld:List (Nat×Ld)} (h:LdsOk P ld):(mmOf lim ld rSt (rAp P)).Ok P:=⟨fun t g hg=>lds_ok h hg,rSt_ok,rAp_ok P⟩
inductive GsOk (P:Program):List (Nat×HSum)→Prop
 |nil:GsOk P []
 |cons {f:Nat} {g:HSum} {r:List (Nat×HSum)} (h:HSumOk P f g) (hf:Has P f) (hs:GsOk P r):GsOk P ((f,g)::r)
theorem gs_ok {P:Program} {f:Nat} {g:HSum}:∀{l:List (Nat×HSum)},GsOk P l→gtab l f=some g→HSumOk P f g∧Has P f
 |_,.nil,h=>by cases h
 |(u,s)::r,.cons h hf hs,hg=>by
  unfold gtab at hg; cases hb:Nat.beq u f with
  |true=>
   rw[hb]at hg
   cases hg
   have:=Nat.eq_of_beq_eq_true hb
   subst this
   exact⟨h,hf⟩
  |false=>rw[hb]at hg;exact gs_ok hs hg
inductive MsOk (P:Program):List (Nat×MSum)→Prop
 |nil:MsOk P []
 |cons {f:Nat} {g:MSum} {r:List (Nat×MSum)} (h:MSumOk P f g) (hf:Has P f) (hs:MsOk P r):MsOk P ((f,g)::r)
theorem ms_ok {P:Program} {f:Nat} {g:MSum}:∀{l:List (Nat×MSum)},MsOk P l→mtab l f=some g→MSumOk P f g∧Has P f
 |_,.nil,h=>by cases h
 |(u,s)::r,.cons h hf hs,hg=>by
  unfold mtab at hg; cases hb:Nat.beq u f with
  |true=>
   rw[hb]at hg
   cases hg
   have:=Nat.eq_of_beq_eq_true hb
   subst this
   exact⟨h,hf⟩
  |false=>rw[hb]at hg;exact ms_ok hs hg
def cxM (fi:Fi) (P:Program) (meths:TypeId→String→Option FuncId) (l es:List (Nat×Sum)) (gl:List (Nat×HSum)) (ml:List (Nat×MSum)) (M:Mm):Cx:=
 {P:=P,sums:=tab l,exts:=tab es,meths:=meths,wild:=fun _=>false,fi:=fi,nn:=false,nan1:=fun _=>false,defs:=fun _=>false,hs:=fun _ _ _=>none,gs:=gtab gl,mg:=mtab ml,mm:=some M }
theorem cxM_ok {P:Program} {meths:TypeId→String→Option FuncId} (hm:∀ t s f,meths t s=some f→∀ v w,(method (P.types.size+Made.depth) t v s).run P w=.ok (f,v) w) {l es:List (Nat×Sum)} (hl:AllOk P l) (he:∀ f g,tab es f=some g→ExtOk P f g)
  {gl:List (Nat×HSum)} (hg:GsOk P gl) {ml:List (Nat×MSum)} (hml:MsOk P ml) {M:Mm} (hM:M.Ok P):(cxM fiReal P meths l es gl ml M).Ok where
 fair:=fiReal_fair
 sums:=fun f g hg=>tab_ok hl f g hg
 exts:=he
 meths:=hm
 hs:=fun f args H v h=>by cases h
 nan1:=fun f hf=>by cases hf
 gs:=fun f g h=>gs_ok hg h
 ms:=fun f args H p h=>by cases h
 mg:=fun f g h=>ms_ok hml h
 mm:=fun M' h=>by cases h;exact hM
def seqN:Nat→Code→Code
 |0,c=>c
 |n+1,c=>seqN n (seqB c)
def oldIn (lo:Nat) (bo:List Nat):Objs→Bool
 |[]=>true
 |(k,_)::r=>(Nat.ble lo k || bo.contains k) && oldIn lo bo r
theorem oldIn_mem {lo k:Nat} {bo:List Nat} {o:AObj}:∀{O:Objs},oldIn lo bo O=true→(k,o)∈O→k<lo→k∈bo
 |[],_,h,_=>by simp at h
 |(j,u)::r,g,h,hk=>by
  simp only[oldIn,Bool.and_eq_true,Bool.or_eq_true,Nat.ble_eq,List.contains_iff_mem]at g
  rcases List.mem_cons.1 h with e|h
  ·cases e
   rcases g.1 with g|g
   ·omega
   ·exact g
  ·exact oldIn_mem g.2 h hk
theorem look_of_mem {k:Nat} {o:AObj}:∀{S:Objs},(k,o)∈S→∃ o',look k S=some o'
 |[],h=>by simp at h
 |(j,u)::r,h=>by
  unfold look; cases hb:Nat.beq j k with
  |true=>exact⟨u,rfl⟩
  |false=>
   rcases List.mem_cons.1 h with e|h
   ·cases e;simp at hb
   ·exact look_of_mem h
theorem takeO_of {k:Nat} {o:AObj} {O:Objs} (hl:look k O=some o):∀{bo:List Nat},k∈bo→(k,o)∈takeO bo O
 |[],h=>by simp at h
 |b::r,h=>by
  unfold takeO; rcases List.mem_cons.1 h with rfl|h
  ·rw[hl];exact List.mem_cons_self
  ·split
   ·exact List.mem_cons_of_mem _ (takeO_of hl h)
   ·exact takeO_of hl h
def slimL (ts bo:List Nat) (L:Hand):Hand:=fun R lo sz a e H k=>bif oldIn lo bo H.objs then L R lo sz a (takeE ts e) ⟨H.next,takeO bo H.objs⟩ k else none
theorem slimL_ok {P:Program} {ts bo:List Nat} {L:Hand} {a:Code} (h:LOk P L a):LOk P (slimL ts bo L) a:=fun R lo sz e H k r hr=>by
 unfold slimL at hr; cases hb:oldIn lo bo H.objs with
 |false=>rw[hb]at hr;cases hr
 |true=>
  rw[hb]at hr
  obtain⟨ex,e',H',g1,g2⟩:=h R lo sz _ _ k r hr
  refine⟨ex,e',H',g1,fun{ρ w act} hi hlo he hs Q hQ=>?_⟩
  refine g2 (hi.sub fun x hx=>takeO_mem hx) hlo (fun t v hv=>he t v (getE_take hv)) hs Q fun ρ' a' w' m1 m2 m3 m4=>hQ ρ' a' w' (m1.sup (fun x hx=>takeO_mem hx) fun k o hk hm=>?_) m2 m3 m4
  obtain⟨o',ho'⟩:=look_of_mem hm
  have:=hi.one k o o' hm (look_mem ho')
  subst this; exact takeO_of ho' (oldIn_mem hb hm hk)
def orL (t:Nat) (A B:Hand):Hand:=fun R lo sz a e H k=>match getE t e with
 |some _=>A R lo sz a e H k
 |none=>B R lo sz a e H k
theorem orL_ok {P:Program} {t:Nat} {A B:Hand} {a:Code} (hA:LOk P A a) (hB:LOk P B a):LOk P (orL t A B) a:=fun R lo sz e H k r h=>by
 unfold orL at h; split at h
 ·exact hA R lo sz e H k r h
 ·exact hB R lo sz e H k r h
theorem noL_ok {P:Program} {a:Code}:LOk P noL a:=fun R lo sz e H k r h=>by cases h
noncomputable def told (P:Program) (ex:Ex) (e':Env) (H':AH):Hand:=fun R lo sz a e H k=>
 open Classical in if CodeOk P lo sz e H ex e' H' (fun Q act w=>Code.wp P (.loop a) Q act w) then k ex e' H' else none
theorem told_ok (P:Program) (ex:Ex) (e':Env) (H':AH) (a:Code):LOk P (told P ex e' H') a:=fun R lo sz e H k r h=>by
 unfold told at h; split at h
 ·rename_i hc
  exact⟨ex,e',H',h,hc⟩
 ·cases h
theorem told_eq {P:Program} {ex:Ex} {e':Env} {H':AH} {lo sz:Nat} {a:Code} {e:Env} {H:AH} (h:CodeOk P lo sz e H ex e' H' (fun Q act w=>Code.wp P (.loop a) Q act w)) (R:Type) (k:Ex→Env→AH→Option R):
  told P ex e' H' R lo sz a e H k=k ex e' H':=by
 unfold told; exact if_pos @h
theorem fun_code {C:Cx} (hC:C.Ok) (hmix:C.P.follows .mixedOrders=true) {n lo sz:Nat} {c:Code} {L:Hand} (hL:∀ a∈loopsIn c,LOk C.P L a) {e0:Env} {H:AH} {ts bo:List Nat} {ex:Ex} {e':Env} {O:Objs}
  (h:evTop C n L lo sz c e0 H (takeC ts bo fun ex e O=>some (ex,e,O))=some (ex,e',O)):
  ∃ H',O=takeO bo H'.objs∧CodeOk C.P lo sz e0 H ex e' H' (fun Q a w=>c.wp C.P Q a w):=by
 obtain⟨ex1,e1,H1,g1,g2⟩:=evTop_sound hC hmix c (L:=L) (n:=n) hL _ _ _ _ h
 unfold takeC at g1; cases g1
 exact⟨H1,rfl,CodeOk.env @g2 (fun t v h=>h) fun t v h=>getE_take h⟩
theorem look_take {k:Nat} {o:AObj} {O:Objs}:∀{bo:List Nat},look k (takeO bo O)=some o→look k O=some o
 |[],h=>by cases h
 |b::r,h=>by
  unfold takeO at h; split at h
  ·rename_i o' ho; unfold look at h; cases hb:Nat.beq b k with
   |true=>
    rw[hb]at h
    cases h
    have:=Nat.eq_of_beq_eq_true hb
    subst this; exact ho
   |false=>rw[hb]at h;exact look_take h
  ·exact look_take h
theorem resE_take {P:Program} {e:Env} {bo:List Nat} {n:Nat} {H:AH}:∀{l:List ResultVar} {vs:List Value},resE P e ⟨n,takeO bo H.objs⟩ l=some vs→resE P e H l=some vs
 |[],vs,h=>h
 |.tmp t::r,vs,h=>by
  simp only[resE]at h
  obtain⟨v,h1,h2⟩:=bind_some' h
  obtain⟨us,h3,h4⟩:=bind_some' h2
  simp only[resE,h1,resE_take h3,Option.bind_some]
  exact h4
 |.cell t ty::r,vs,h=>by
  simp only[resE]at h
  obtain⟨p,h1,h2⟩:=bind_some' h
  split at h2
  ·rename_i ad; split at h2
   ·rename_i cs sz hl
    obtain⟨v,k1,k2⟩:=loadE_sound h2
    obtain⟨us,h3,h4⟩:=bind_some' k1
    simp only[resE,h1,Option.bind_some,look_take hl]
    unfold loadE at h2 ⊢; cases hr:isRowB P ty with
    |true=>
     rw[hr]at h2
     simp only[cond_true]at h2 ⊢
     cases hb:(Nat.ble (ad.off+P.cellsOf ty) cs.length && !Nat.beq (P.cellsOf ty) 0) with
     |false=>rw[hb]at h2;cases h2
     |true=>
      rw[hb]at h2
      simp only[cond_true]at h2 ⊢
      obtain⟨us2,q1,q2⟩:=bind_some' h2
      rw[resE_take q1]
      exact q2
    |false=>
     rw[hr]at h2
     simp only[cond_false]at h2 ⊢
     cases hb:(P.underlying ty).isSome with
     |false=>rw[hb]at h2;cases h2
     |true=>
      rw[hb]at h2
      simp only[cond_true]at h2 ⊢
      obtain⟨v2,q0,h5⟩:=bind_some' h2
      obtain⟨us2,q1,q2⟩:=bind_some' h5
      rw[q0,Option.bind_some,resE_take q1]
      exact q2
   ·cases h2
  ·cases h2
theorem fun_flat {C:Cx} (hC:C.Ok) (hmix:C.P.follows .mixedOrders=true) {n:Nat} {f:FuncId} {fn:Func} {c:Code} (hf:C.P.funcs[f]?=some fn) (hb:fn.body=some c) {L:Hand} (hL:∀ a∈loopsIn c,LOk C.P L a)
  {args:List Value} {H:AH} {ts bo:List Nat} {ex:Ex} {e':Env} {O:Objs} {vs:List Value} (hl:args.length≤fn.ntmps)
  (h:evTop C n L H.next fn.ntmps c (enumE 0 args) H (takeC ts bo fun ex e O=>some (ex,e,O))=some (ex,e',O)) (hex:ex=.normal∨ex=.ret) (hr:resE C.P e' ⟨0,O⟩ fn.results.toList=some vs) (hfl:flat (oneOf vs)=true):
  ∀ ρ w args',Inv ρ H w→VRels ρ args args'→Calls C.P f ⟨args'⟩ w fun e w'=>e=.returned (oneOf vs)∧RowKit.Below w.heap.size w w':=by
 obtain⟨H',hO,g⟩:=fun_code hC hmix hL h
 rw[hO]at hr
 exact calls_below hf hb hl @g hex (resE_take hr) hfl
theorem fun_mem {C:Cx} (hC:C.Ok) (hmix:C.P.follows .mixedOrders=true) {n:Nat} {f:FuncId} {fn:Func} {c:Code} (hf:C.P.funcs[f]?=some fn) (hb:fn.body=some c) {L:Hand} (hL:∀ a∈loopsIn c,LOk C.P L a)
  {args:List Value} {H:AH} {ts bo:List Nat} {ex:Ex} {e':Env} {O:Objs} {vs:List Value} (hl:args.length≤fn.ntmps)
  (h:evTop C n L H.next fn.ntmps c (enumE 0 args) H (takeC ts bo fun ex e O=>some (ex,e,O))=some (ex,e',O)) (hex:ex=.normal∨ex=.ret) (hr:resE C.P e' ⟨0,O⟩ fn.results.toList=some vs):
  ∃ H',(∀ x,x∈O→x∈H'.objs)∧∀ ρ w args',Inv ρ H w→VRels ρ args args'→Calls C.P f ⟨args'⟩ w fun e w'=>∃ ρ' v',e=.returned v'∧VRel ρ' (oneOf vs) v'∧Next H.next ρ H w ρ' H' w':=by
 obtain⟨H',hO,g⟩:=fun_code hC hmix hL h
 rw[hO]at hr
 exact⟨H',fun x hx=>takeO_mem (by rw[hO]at hx;exact hx),calls_next hf hb hl @g hex (resE_take hr)⟩
def FlatCall (P:Program) (f:FuncId) (args:List Value) (H:AH) (v:Value):Prop:=
 ∀ ρ w args',Inv ρ H w→VRels ρ args args'→Calls P f ⟨args'⟩ w fun e w'=>e=.returned v∧RowKit.Below w.heap.size w w'
def MemCall (P:Program) (f:FuncId) (args:List Value) (H:AH) (v:Value) (H':AH):Prop:=
 ∀(lo:Nat) (ρ:Map) (w:World) (args':List Value),Inv ρ H w→lo≤H.next→VRels ρ args args'→Calls P f ⟨args'⟩ w fun e w'=>∃ ρ' v',e=.returned v'∧VRel ρ' v v'∧Next lo ρ H w ρ' H' w'
def only(b:Nat) (k:Nat):Option Nat:=bif Nat.beq k 0 then some b else none
theorem only_some {b j k:Nat} (h:only b j=some k):j=0∧k=b:=by
 unfold only at h; cases hb:Nat.beq j 0 with
 |true=>rw[hb]at h;cases h;exact⟨Nat.eq_of_beq_eq_true hb,rfl⟩
 |false=>rw[hb]at h;cases h
theorem within_only {b:Nat} {cs:List Value} {sz:Nat} {H:AH} (hf:inns 0 cs=true) (hm:(b,.cells cs sz)∈H.objs):Within (only b) ⟨1,[(0,.cells cs sz)]⟩ H where
 obj:=fun j o h=>by
  simp only[List.mem_singleton,Prod.mk.injEq]at h
  obtain⟨rfl,rfl⟩:=h
  exact⟨b,.cells cs sz,rfl,by simp[renO,rens_flat hf],hm⟩
 lt:=fun j o h=>by
  simp only[List.mem_singleton,Prod.mk.injEq]at h
  show j<1; omega
 one:=fun j o o' h1 h2=>by
  simp only[List.mem_singleton,Prod.mk.injEq]at h1 h2
  rw[h1.2,h2.2]
 inj:=fun j j' k h1 h2=>by rw[(only_some h1).1,(only_some h2).1]
 dom:=fun j k h=>by rw[(only_some h).1];exact Nat.zero_lt_one
theorem FlatCall.one {P:Program} {f:FuncId} {argsc args:List Value} {H:AH} {b sz:Nat} {cs:List Value} {v:Value} (h:FlatCall P f argsc ⟨1,[(0,.cells cs sz)]⟩ v) (hf:inns 0 cs=true) (hm:(b,.cells cs sz)∈H.objs) (ha:renL (only b) argsc=some args):FlatCall P f args H v:=
 calls_pull (within_only hf hm) ha h
abbrev HT:=∀ R:Type,List Value→AH→Option R→Option R
def saysV (v:Value) (g:HT):HSum:=fun R args H k=>g R args H (k v)
noncomputable def saysR (P:Program) (f:FuncId) (v:Value):HT:=fun R args H k=>
 letI:=Classical.propDecidable
 if FlatCall P f args H v then k else none
theorem says_ok {P:Program} {f:FuncId} {v:Value} (hv:flat v=true):HSumOk P f (saysV v (saysR P f v)):=fun R args H k r h=>by
 unfold saysV saysR at h; split at h
 ·rename_i hc;exact⟨v,h,hv,hc⟩
 ·cases h
theorem says_eq {P:Program} {f:FuncId} {v:Value} {R:Type} {args:List Value} {H:AH} {k:Option R} (h:FlatCall P f args H v):saysR P f v R args H k=k:=by
 unfold saysR;exact if_pos h
def saysM (v:Value) (g:HT):MSum:=fun R args H k=>g R args H (k v H)
theorem saysM_ok {P:Program} {f:FuncId} {v:Value} (hv:flat v=true):MSumOk P f (saysM v (saysR P f v)):=fun R args H k r h=>by
 unfold saysM saysR at h; split at h
 ·rename_i hc
  refine⟨v,H,h,fun lo ρ w args' hi hlo ha=>(hc ρ w args' hi ha).mono ?_⟩
  rintro e w' ⟨rfl,hb⟩
  exact⟨ρ,v,rfl,VRel.ofFlat ρ hv,below_next hi hb⟩
 ·cases h
abbrev MT:=∀ R:Type,List Value→AH→(List Value→Option R)→Option R
def leavesV (sz:Nat) (v:Nat→Value) (g:MT):MSum:=fun R args H k=>g R args H fun cs=>k (v H.next) (H.push (.cells cs sz))
noncomputable def leavesR (P:Program) (f:FuncId) (sz:Nat) (v:Nat→Value) (cs:List Value):MT:=fun R args H k=>
 letI:=Classical.propDecidable
 if MemCall P f args H (v H.next) (H.push (.cells cs sz)) then k cs else none
theorem leaves_ok {P:Program} {f:FuncId} {sz:Nat} {v:Nat→Value} {cs:List Value}:MSumOk P f (leavesV sz v (leavesR P f sz v cs)):=fun R args H k r h=>by
 unfold leavesV leavesR at h; split at h
 ·rename_i hc;exact⟨_,_,h,hc⟩
 ·cases h
theorem leaves_eq {P:Program} {f:FuncId} {sz:Nat} {v:Nat→Value} {cs:List Value} {R:Type} {args:List Value} {H:AH} {k:List Value→Option R} (h:MemCall P f args H (v H.next) (H.push (.cells cs sz))):leavesR P f sz v cs R args H k=k cs:=by
 unfold leavesR;exact if_pos h
open Go.Proofs
noncomputable def codeOf (n:Nat):Code:=match Tryz.prog.funcs[n]? with
 |none=>.skip
 |some fn=>match fn.body with
  |some c=>c
  |none=>.skip
noncomputable def loopNo (c:Code) (n:Nat):Code:=match (loopsIn c)[n]? with|some a=>a|none=>.skip
theorem one28:OneCell Tryz.prog 32:=fun R cs off k=>by kernel_rfl
theorem more66:MoreCells Tryz.prog 39 4:=fun R cs off k=>by kernel_rfl
theorem z_pi (R:Type) (k:Value→Option R):evFn (cx Tryz.prog []) 60 70 [] k=k (.tuple ⟨[.float .f64 4614256656552045848,.float .f64 4368955796522032135]⟩):=by kernel_rfl
theorem z_core (R:Type) t (k:Value→Option R):evFn (cx Tryz.prog [(70,sPi)]) 60 154 [.float .f64 t] k=coreK R t fun x=>k (.float .f64 x):=by kernel_rfl
theorem z_odd (R:Type) t (k:Value→Option R):evFn (cx Tryz.prog []) 60 153 [.float .f64 t] k=oddK R t fun x=>k (.float .f64 x):=by kernel_rfl
theorem z_log (fi:Fi) (g0 gp gm:KFB) (pa:KFFI) (odd:KFF) (R:Type) t (k:Value→Option R):evFn (cxf fi Tryz.prog [(73,sInf3 g0 gp gm),(76,sNever),(74,sInfW2),(111,sFFI pa),(153,sFF odd)] []) 60 151 [.float .f64 t] k =
 logB fi gp pa odd R t fun x=>k (.float .f64 x):=by kernel_rfl
theorem z_sign (fi:Fi) (R:Type) t (k:Value→Option R):evFn (cxf fi Tryz.prog [] []) 60 157 [.float .f64 t] k=signB fi R t fun t=>k (.bool t):=by kernel_rfl
theorem z_minus (sg:KFB) (R:Type) t (k:Value→Option R):evFn (cx Tryz.prog [(157,sFB sg)]) 60 155 [.float .f64 t] k=minusB sg R t fun t=>k (.bool t):=by kernel_rfl
theorem z_signed (mi:KFB) (ab:KFF) (R:Type) a b (k:Value→Option R):evFn (cx Tryz.prog [(155,sFB mi),(21,sFF ab)]) 60 156 [.float .f64 a,.float .f64 b] k=signedB mi ab R a b fun x=>k (.float .f64 x):=by kernel_rfl
theorem z_angle (ab:KFF) (g0 gp gm:KFB) (core:KFF) (mi:KFB) (sd:KFFF) (R:Type) a b (k:Value→Option R):
 evFn (cx Tryz.prog [(21,sFF ab),(73,sInf3 g0 gp gm),(70,sPi),(154,sFF core),(155,sFB mi),(156,sFFF sd),(76,sNever)]) 60 152 [.float .f64 a,.float .f64 b] k=angleB ab gp core mi sd R a b fun x=>k (.float .f64 x):=by kernel_rfl
theorem z_powLog (len:KCF) (lg:KFF) (an:KFFF) (R:Type) a b (k:Value→Option R):evFn (cx Tryz.prog [(29,sCF len),(151,sFF lg),(152,sFFF an)]) 60 150 [.complex .f64 a b] k=powLogB len lg an R a b fun x y=>k (.complex .f64 x y):=by kernel_rfl
def checkK:KEI:=checkB placeK withinK noughtK wh1
def spSK:∀ R:Type,Nat→Nat→Nat→Nat→Nat→Nat→(Int→Option R)→(Nat→Nat→Option R)→Option R:=spS checkK placeK noughtK FiniteK subK
def spOK:∀ R:Type,Nat→Nat→Nat→Nat→Nat→Nat→(Int→Option R)→(Nat→Nat→Option R)→Option R:=spO checkK placeK noughtK FiniteK subK divK sclK
def spDK:∀ R:Type,Nat→Nat→Nat→Nat→Nat→Nat→(Int→Option R)→(Nat→Nat→Option R)→Option R:=spD checkK placeK noughtK FiniteK subK divK mulK sclK
def hot:List (Nat×Sum):=[(84,sEI checkK),(28,sSp spSK spOK spDK),(108,sFF2 stepsK),(109,sCB placeK),(110,sCB noughtK),(114,sWh1),(90,sW2 mulK),(21,sFF absK),(43,sCCC mulK),(26,sCCC addK),(35,sCCC subK),(113,sFFB withinK),(92,sCFB WithinK),(93,sFB finiteK),(91,sCB FiniteK),(89,sCCC divK),(45,sCC negK),
 (73,sInf3 isInfK isInfPK isInfMK),(74,sInfW2),(75,sFB isNanK),(125,sFFI normK),(117,sFFI frexpK),(94,sFFI frexpK),(111,sFFI frexpK),(126,sFFF copyK),
 (119,sFIF ldexpK),(95,sFIF ldexpK),(79,sFIF scaleK),(77,sCF greatestK),(78,sCCI scaledK),(81,sCF squareK),(80,sFF sqrtK),(29,sCF lengthK),(15,sCFC sclK),
 (70,sPi),(154,sFF coreK),(153,sFF oddK),(151,sFF logK),(157,sFB signK),(155,sFB minusK),(156,sFFF signedK),(152,sFFF angleK),(150,sCC powLogK)]
def methT (t:TypeId) (s:String):Option FuncId:=
 bif s == "eddy/element.speed" then
  (bif Nat.beq t 141 then some 149 else bif Nat.beq t 143 then some 160 else bif Nat.beq t 145 then some 164 else bif Nat.beq t 147 then some 171 else bif Nat.beq t 148 then some 174 else none)
 else bif s == "eddy/element.potential" then
  (bif Nat.beq t 141 then some 147 else bif Nat.beq t 143 then some 158 else bif Nat.beq t 145 then some 162 else bif Nat.beq t 147 then some 169 else bif Nat.beq t 148 then some 172 else none)
 else bif s == "eddy/element.slope" then
  (bif Nat.beq t 141 then some 148 else bif Nat.beq t 143 then some 159 else bif Nat.beq t 145 then some 163 else bif Nat.beq t 147 then some 170 else bif Nat.beq t 148 then some 173 else none)
 else none
def wildT (f:FuncId):Bool:=Nat.beq f 98
def nanT (f:FuncId):Bool:=Nat.beq f 21
def cxe (P:Program) (l:List (Nat×Sum)):Cx:={ P:=P,sums:=tab l,exts:=fun _=>none,meths:=methT,wild:=fun _=>false,fi:=fiReal,nn:=false,nan1:=fun _=>false,defs:=fun _=>false,hs:=fun _ _ _=>none }
def extL:List (Nat×Sum):=[(57,xFrom),(58,xBits),(127,xWhole .even),(128,xWhole .zero)]
def cxm (P:Program) (l:List (Nat×Sum)):Cx:={ P:=P,sums:=tab l,exts:=tab extL,meths:=methT,wild:=wildT,fi:=fiReal,nn:=true,nan1:=nanT,defs:=fun f=>Nat.beq f 48,hs:=fun _ _ _=>none }
theorem z_wh1 (R:Type) (k:Value→Option R):evFn (cx Tryz.prog []) 60 114 [.float .f64 4607182418800017408] k=k (.bool true):=by kernel_rfl
theorem z_reals (wi:KCFB) (R:Type) a b (k:Value→Option R):evFn (cx Tryz.prog [(92,sCFB wi)]) 60 109 [.complex .f64 a b] k=placeB wi R a b fun t=>k (.bool t):=by kernel_rfl
theorem z_nought2 (R:Type) a b (k:Value→Option R):evFn (cx Tryz.prog []) 60 110 [.complex .f64 a b] k=noughtK R a b fun t=>k (.bool t):=by kernel_rfl
theorem z_echeck (re:KCB) (wi:KFFB) (no:KCB) (wh:KFB) (R:Type) kind a1 a2 s1 s2 p (k:Value→Option R):
 evFn (cx Tryz.prog [(109,sCB re),(113,sFFB wi),(110,sCB no),(114,sFB wh)]) 60 84 [el kind a1 a2 s1 s2 p] k=checkB re wi no wh R kind a1 a2 s1 s2 p fun e=>k (.int .i64 e):=by kernel_rfl
theorem z_whole2 (mul:KCCC) (R:Type) a b (k:Value→Option R):evFn (cx Tryz.prog [(43,sCCC mul)]) 60 90 [.complex .f64 a b,.int .i64 2] k=mul R a b a b fun x y=>k (.complex .f64 x y):=by kernel_rfl
theorem z_spS (re:KCB) (wi:KFFB) (no fin:KCB) (wh:KFB) (sub:KCCC) (R:Type) a1 a2 s1 s2 z1 z2 (k:Value→Option R):
 evFn (cxe Tryz.prog [(84,sEI (checkB re wi no wh)),(109,sCB re),(110,sCB no),(91,sCB fin),(35,sCCC sub)]) 60 28 [el 1 a1 a2 s1 s2 0,.complex .f64 z1 z2] k =
  spS (checkB re wi no wh) re no fin sub R a1 a2 s1 s2 z1 z2 (vErr k) (zOk k):=by kernel_rfl
theorem z_spO (re:KCB) (wi:KFFB) (no fin:KCB) (wh:KFB) (sub div:KCCC) (scl:KCFC) (R:Type) a1 a2 s1 s2 z1 z2 (k:Value→Option R):
 evFn (cxe Tryz.prog [(84,sEI (checkB re wi no wh)),(109,sCB re),(110,sCB no),(91,sCB fin),(35,sCCC sub),(89,sCCC div),(15,sCFC scl),(70,sPi)]) 60 28 [el 2 a1 a2 s1 s2 0,.complex .f64 z1 z2] k =
  spO (checkB re wi no wh) re no fin sub div scl R a1 a2 s1 s2 z1 z2 (vErr k) (zOk k):=by kernel_rfl
theorem z_spD (re:KCB) (wi:KFFB) (no fin:KCB) (sub div mul:KCCC) (scl:KCFC) (R:Type) a1 a2 s1 s2 z1 z2 (k:Value→Option R):
 evFn (cxe Tryz.prog [(84,sEI (checkB re wi no wh1)),(109,sCB re),(110,sCB no),(114,sWh1),(91,sCB fin),(35,sCCC sub),(89,sCCC div),(15,sCFC scl),(90,sW2 mul)]) 60 28 [el 3 a1 a2 s1 s2 4607182418800017408,.complex .f64 z1 z2] k =
  spD (checkB re wi no wh1) re no fin sub div mul scl R a1 a2 s1 s2 z1 z2 (vErr k) (zOk k):=by kernel_rfl
theorem z_steps (R:Type) y (k:Value→Option R):evFn (cx Tryz.prog []) 60 108 [.float .f64 y] k=stepsK R y fun s c=>k (.tuple ⟨[.float .f64 s,.float .f64 c]⟩):=by kernel_rfl
end Go.Vm
