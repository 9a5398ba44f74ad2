/- A part; no conditions. -/
import Derived.Test.YtaogignikkjkjaaGreatVmLP
set_option maxRecDepth 1000000
set_option maxHeartbeats 1000000
set_option linter.all false
open Nat renaming beq->N9
open Rat renaming le_refl->R9
open Go renaming IntKind->K9
namespace Go.Vm
def el(kind:Int)(a1 a2 s1 s2 p:Nat):Value:=.agg ⟨[.int .u8 kind,.complex .f64 a1 a2,.complex .f64 s1 s2,.float .f64 p]⟩
abbrev KEI:=∀R:Type,Int->Nat->Nat->Nat->Nat->Nat->(Int->Option R)->Option R
def sEI(g:KEI):Sum:=λR args k=>match args with
 |[.agg ⟨[.int .u8 kind,.complex .f64 a1 a2,.complex .f64 s1 s2,.float .f64 p]⟩]=>g R kind a1 a2 s1 s2 p λe=>k (.int .i64 e)
 |_=>none
def cT(re:KCB)(wi:aA1)(no:KCB)(wh:KFB):KEI:=λR kind a1 a2 s1 s2 p k=>
 aW (decide (kind<1)) λt=>match t with
 |true=>k 150
 |false=>aW (decide (kind>4)) λt=>match t with
  |true=>k 150
  |false=>re R a1 a2 λt=>aW t λt=>match t with
   |false=>k 5
   |true=>re R s1 s2 λt=>aW t λt=>match t with
    |false=>k 5
    |true=>wi R p 4787326403894837248 λt=>aW t λt=>match t with
     |false=>k 5
     |true=>aW (kind==1) λt=>match t with
      |true=>no R a1 a2 λt=>aW t λt=>match t with
       |true=>aW (eqF p 0) λt=>match t with|true=>k 0|false=>k 150
       |false=>k 150
      |false=>aW (kind==2) λt=>match t with
       |true=>aW (eqF p 0) λt=>match t with|true=>k 0|false=>k 150
       |false=>aW (kind==3) λt=>match t with
        |true=>wh R p λt=>aW t λt=>match t with
         |true=>aW (geF p 4607182418800017408) λt=>match t with
          |true=>aW (leF p 4620693217682128896) λt=>match t with|true=>k 0|false=>k 150
          |false=>k 150
         |false=>k 150
        |false=>aW (kind==4) λt=>match t with
         |true=>aW (geF p 4598175219545276416) λt=>match t with
          |true=>aW (leF p 4616189618054758400) λt=>match t with|true=>k 0|false=>k 150
          |false=>k 150
         |false=>k 150
def jI{R:Type}(fin:KCB)(er:KIO R)(k:KNN R)(x y:Nat):Option R:=
 fin R x y λt=>aW t λt=>match t with|true=>k x y|false=>er 6
def spS(chk:KEI)(re no fin:KCB)(sub:gU):∀R:Type,Nat->Nat->Nat->Nat->Nat->Nat->(Int->Option R)->(Nat->Nat->Option R)->Option R:=λR a1 a2 s1 s2 z1 z2 er k=>
 chk R 1 a1 a2 s1 s2 0 λe=>match decide (e=0) with
  |false=>er e
  |true=>re R z1 z2 λt=>aW t λt=>match t with
   |false=>er 5
   |true=>sub R z1 z2 a1 a2 λd1 d2=>no R d1 d2 λt=>aW t λt=>match t with
    |true=>jI fin er k s1 s2
    |false=>jI fin er k s1 s2
def spO(chk:KEI)(re no fin:KCB)(sub div:gU)(scl:mO):∀R:Type,Nat->Nat->Nat->Nat->Nat->Nat->(Int->Option R)->(Nat->Nat->Option R)->Option R:=λR a1 a2 s1 s2 z1 z2 er k=>
 chk R 2 a1 a2 s1 s2 0 λe=>match decide (e=0) with
  |false=>er e
  |true=>re R z1 z2 λt=>aW t λt=>match t with
   |false=>er 5
   |true=>scl R s1 s2 4594902181429758083 λc1 c2=>sub R z1 z2 a1 a2 λd1 d2=>no R d1 d2 λt=>aW t λt=>match t with
    |true=>er 6
    |false=>div R c1 c2 d1 d2 (jI fin er k)
def spD(chk:KEI)(re no fin:KCB)(sub div mul:gU)(scl:mO):∀R:Type,Nat->Nat->Nat->Nat->Nat->Nat->(Int->Option R)->(Nat->Nat->Option R)->Option R:=λR a1 a2 s1 s2 z1 z2 er k=>
 chk R 3 a1 a2 s1 s2 4607182418800017408 λe=>match decide (e=0) with
  |false=>er e
  |true=>re R z1 z2 λt=>aW t λt=>match t with
   |false=>er 5
   |true=>sub R z1 z2 a1 a2 λd1 d2=>no R d1 d2 λt=>aW t λt=>match t with
    |true=>er 6
    |false=>scl R s1 s2 13830554455654793216 λt1 t2=>mul R d1 d2 d1 d2 λq1 q2=>div R t1 t2 q1 q2 (jI fin er k)
def mL{R:Type}(k:KVO R)(e:Int):Option R:=k (.tuple ⟨[.complex .f64 0 0,.int .i64 e]⟩)
def sSp(f1 f2 f3:∀R:Type,Nat->Nat->Nat->Nat->Nat->Nat->(Int->Option R)->(Nat->Nat->Option R)->Option R):Sum:=λR args k=>match args with
 |[.agg ⟨[.int .u8 kind,.complex .f64 a1 a2,.complex .f64 s1 s2,.float .f64 p]⟩,.complex .f64 z1 z2]=>
  bif kind==1&&N9 p 0 then f1 R a1 a2 s1 s2 z1 z2 (mL k) (zOk k)
  else bif kind==2&&N9 p 0 then f2 R a1 a2 s1 s2 z1 z2 (mL k) (zOk k)
  else bif kind==3&&N9 p 4607182418800017408 then f3 R a1 a2 s1 s2 z1 z2 (mL k) (zOk k)
  else none
 |_=>none
def bX8:Sum:=λR args k=>match args with
 |[.float .f64 p]=>bif N9 p 4607182418800017408 then k (.bool true) else none
 |_=>none
def wh1:KFB:=λR p k=>bif N9 p 4607182418800017408 then k true else none
def sW2(mul:gU):Sum:=λR args k=>match args with
 |[.complex .f64 a b,.int .i64 n]=>bif n==2 then mul R a b a b λx y=>k (.complex .f64 x y) else none
 |_=>none
abbrev bCu:=∀R:Type,Nat->(Nat->Nat->Option R)->Option R
def bC0(g:bCu):Sum:=λR args k=>match args with
 |[.float .f64 y]=>g R y λs c=>k (.tuple ⟨[.float .f64 s,.float .f64 c]⟩)
 |_=>none
def aT1{R:Type}(z:Nat):List (Nat×Nat)->Nat->Nat->(Nat->Nat->Option R)->Option R
 |[],s,c,k=>k s c
 |(a,b)::r,s,c,k=>aM (fbF .quo z a) λx=>aM (fbF .mul x s) λx=>aM (fbF .sub 4607182418800017408 x) λs=>
   aM (fbF .quo z b) λx=>aM (fbF .mul x c) λx=>aM (fbF .sub 4607182418800017408 x) λc=>aT1 z r s c k
def bJg:List (Nat×Nat):=[(4644724143818801152,4644090825121202176),(4643492690795692032,4642648265865560064),(4641592734702895104,4640607572284407808),(4639692778610098176,4638848353679966208),(4637440978796412928,4636033603912859648),(4634766966517661696,4633078116657397760),(4631107791820423168,4629137466983448576),(4626322717216342016,4622945017495814144),(4618441417868443648,4611686018427387904)]
def yC:bCu:=λR y k=>aM (fbF .mul y y) λz=>aT1 z bJg 4607182418800017408 4607182418800017408 λs c=>aM (fbF .mul y s) λs=>k s c
def aKw:Sum:=λR args k=>match args with
 |[.int .u64 n]=>bH n.toNat λx=>k (.float .f64 x)
 |_=>none
def bPp:Sum:=λR args k=>match args with
 |[.float .f64 b]=>aG R (b:Int) λn=>k (.int .u64 n)
 |_=>none
def aH3(way:Ieee.Toward):Sum:=λR args k=>match args with
 |[.float .f64 x]=>match Ieee.double.read x with
  |.nan _ _=>none
  |d=>bH (Ieee.double.write (d.integral way)) λy=>k (.float .f64 y)
 |_=>none
open Ieee
structure bQc(x z:Rat):Prop where
 near:(z-x).abs<=x.abs*(2:Rat)^(-52:Int)\/(z-x).abs<=(2:Rat)^(-1074:Int)
 rep:∀(K:Int)(q:Int),K.natAbs<2^53->-1074<=q->x=K*(2:Rat)^q->z=x
theorem fO:((0:Rat)).abs=0:=by rw[fZ (by decide)]
theorem aL(x y:Rat):(x+y).abs<=x.abs+y.abs:=by rw[aA];have h1:=(aA (x:=x) (y:=x.abs)).1 R9;have h2:=(aA (x:=y) (y:=y.abs)).1 R9;grind
theorem abs_neg(x:Rat):(-x).abs=x.abs:=by
 have:=bD (-1) x;rw[show(-1:Rat)*x=-x by grind]at this;rw[this];have:((-1:Rat)).abs=1:=by rw[Rat.abs_of_nonpos (by decide)];rfl
 rw[this];grind
theorem lQ(x y:Rat):(x-y).abs=(y-x).abs:=by rw[<-abs_neg (x-y)];congr 1;grind
theorem aS7:(2:Rat)^(1:Int)=2:=by simp
theorem bAd(q:Int):(2:Rat)^(q+1)=2*(2:Rat)^q:=by rw[bO,aS7];grind
theorem fA(q:Int):(2:Rat)^q=2*(2:Rat)^(q-1):=by rw[<-bAd];congr 1;omega
theorem aMx{s t:Bool}{m n:Nat}{i j:Int}(hn:n≠0):∃b k e,Datum.quotient 54 (.number s m i) (.number t n j)=some (.number b k e)/\
  (dv b k e-dv s m i/dv t n j).abs<=(dv s m i/dv t n j).abs*(2:Rat)^(-54:Int)/\
  (∀(K:Int)(q:Int),K.natAbs<2^53->dv s m i/dv t n j=K*(2:Rat)^q->dv b k e=dv s m i/dv t n j):=by
 refine⟨_,_,_,by unfold Datum.quotient;simp only[hn,if_false];rfl,?_⟩;have hn0:(0:Rat)<(n:Rat):=by exact_mod_cast Nat.pos_of_ne_zero hn
 generalize hmore:54+n.log2-m.log2=more;generalize hD:m <<< more=D;have hDm:D=m*2^more:=by rw[<-hD,Nat.shiftLeft_eq]
 have hE0:=bG (i-j-more);have hj0:=bG j;have hq:dv s m i/dv t n j=sg (s ^^ t)*(((D:Rat)/n)*(2:Rat)^(i-j-more)):=by
  have e1:(2:Rat)^i=(2:Rat)^(i-j-more)*(2:Rat)^j*(2:Rat)^(more:Int):=by rw[<-bO,<-bO];congr 1;omega
  have e2:(D:Rat)=m*(2:Rat)^(more:Int):=by rw[hDm,cN];push_cast;rfl
  have hu:dv t n j≠0:=by
   unfold dv;intro h;rcases Rat.mul_eq_zero.1 h with h|h;· cases t<;>simp[sg]at h<;>grind
   ·rcases Rat.mul_eq_zero.1 h with h|h<;>grind
  have hd:(D:Rat)/n*n=D:=Rat.div_mul_cancel (by grind);rw[Rat.div_def];have hx:dv s m i=sg (s ^^ t)*(((D:Rat)/n)*(2:Rat)^(i-j-more))*dv t n j:=by
   unfold dv;rw[bJb,e1];have hs2:sg t*sg t=1:=by cases t<;>simp[sg]<;>grind
   have:sg s*sg t*((D:Rat)/n*(2:Rat)^(i-j-more))*(sg t*(n*(2:Rat)^j))=sg s*(sg t*sg t)*(((D:Rat)/n*n)*(2:Rat)^(i-j-more)*(2:Rat)^j):=by grind
   rw[this,hs2,hd,e2];grind
  rw[hx,Rat.mul_assoc,Rat.mul_inv_cancel _ hu];grind
 have hdm:=Nat.div_add_mod D n;have hlt:=Nat.mod_lt D (Nat.pos_of_ne_zero hn);have hdmr:(n:Rat)*((D/n:Nat):Rat)+((D%n:Nat):Rat)=D:=by exact_mod_cast congrArg (λz:Nat=>(z:Rat)) hdm
 have hval:((D:Rat)/n)=((D/n:Nat):Rat)+((D%n:Nat):Rat)/n:=by
  have h1:((D:Rat)/n)*n=D:=Rat.div_mul_cancel (by grind);have h2:(((D%n:Nat):Rat)/n)*n=((D%n:Nat):Rat):=Rat.div_mul_cancel (by grind);have h3:((D:Rat)/n-(((D/n:Nat):Rat)+((D%n:Nat):Rat)/n))*n=0:=by grind
  rcases Rat.mul_eq_zero.1 h3 with h|h<;>grind
 have hfl:m≠0->2^53<=D/n:=λhm=>by
  rw[Nat.le_div_iff_mul_le (Nat.pos_of_ne_zero hn)];have h1:2^m.log2<=m:=Nat.log2_self_le hm;have h2:n<2^(n.log2+1):=Nat.lt_log2_self;have h3:2^m.log2*2^more<=D:=by rw[hDm];exact Nat.mul_le_mul_right _ h1
  rw[<-Nat.pow_add]at h3;have h4:2^(54+n.log2)<=2^(m.log2+more):=Nat.pow_le_pow_right (by decide) (by omega);have h5:2^53*n<=2^53*2^(n.log2+1):=Nat.mul_le_mul_left _ (by omega);rw[<-Nat.pow_add,show 53+(n.log2+1)=54+n.log2 by omega]at h5;omega
 generalize hf:D/n=f at *
 generalize hr:D%n=r at *
 have hb:dv (s ^^ t) (2*f+(r != 0).toNat) (i-j-more-1)=sg (s ^^ t)*(((f:Rat)+(if r=0 then 0 else 1/2))*(2:Rat)^(i-j-more)):=by
  unfold dv;rw[fA (i-j-more)];by_cases h0:r=0;· simp[h0];grind
  ·have:(r != 0)=true:=by simp[h0]
   simp only[this,Bool.toNat_true,h0,if_false];push_cast;grind
 have hr0:(0:Rat)<=(r:Rat)/n:=by
  have h1:(r:Rat)/n*n=r:=Rat.div_mul_cancel (by grind);have h2:(0:Rat)<=(r:Rat):=by exact_mod_cast Nat.zero_le _
  refine Rat.not_lt.1 λhlt'=>?_
  have:=Rat.mul_lt_mul_of_pos_right hlt' hn0;grind
 have hr1:(r:Rat)/n<1:=by
  have h1:(r:Rat)/n*n=r:=Rat.div_mul_cancel (by grind);have h2:(r:Rat)<(n:Rat):=oA hlt;refine Rat.not_le.1 λhle'=>?_
  have:=cG hle' (bN hn0);grind
 generalize hR:(r:Rat)/n=rho at *
 constructor
 ·rw[hb,hq,hval];by_cases h0:r=0
  ·have hrho:rho=0:=by
    have:(r:Rat)=0:=by simp[h0]
    rw[<-hR,this,Rat.div_def];simp
   simp only[h0,if_true,hrho];rw[Rat.sub_self,fO];exact bU (aH _) (bN (bG _))
  ·have hm:m≠0:=by
    rintro rfl
    have:D=0:=by simp[hDm]
    rw[this]at hr;simp at hr;exact h0 hr.symm
   simp only[h0,if_false];have e1:sg (s ^^ t)*(((f:Rat)+1/2)*(2:Rat)^(i-j-more))-sg (s ^^ t)*((f+rho)*(2:Rat)^(i-j-more))=sg (s ^^ t)*((1/2-rho)*(2:Rat)^(i-j-more)):=by grind
   rw[e1,aFo,aFo,bD,bD];have e2:(1/2-rho).abs<=1/2:=by rw[aA];constructor<;>grind
   have e3:((2:Rat)^(53:Int))<=((f:Rat)+rho).abs:=by have h1:((2^53:Nat):Rat)<=(f:Rat):=kF (hfl hm);have h2:(2:Rat)^(53:Int)=((2^53:Nat):Rat):=cN 53;have h3:=(aA (x:=(f:Rat)+rho) (y:=((f:Rat)+rho).abs)).1 R9;rw[h2];grind
   have e4:(2:Rat)^(53:Int)*(2:Rat)^(-54:Int)=1/2:=by rw[<-bO,show(53+-54:Int)=-1 by decide];have:=fA 0;rw[Rat.zpow_zero,show(0-1:Int)=-1 by decide]at this;grind
   have e5:=cG e3 (bN (bG (-54)));rw[e4]at e5;have e6:((2:Rat)^(i-j-more)).abs=(2:Rat)^(i-j-more):=fZ (bN hE0);rw[e6];have e7:=cG (cR e2 e5) (bN hE0);grind
 ·intro K q hK he;rw[hb,hq,hval];by_cases h0:r=0
  ·have hrho:rho=0:=by
    have:(r:Rat)=0:=by simp[h0]
    rw[<-hR,this,Rat.div_def];simp
   simp only[h0,if_true,hrho]
  ·exfalso;have hm:m≠0:=by
    rintro rfl
    have:D=0:=by simp[hDm]
    rw[this]at hr;simp at hr;exact h0 hr.symm
   rw[hq,hval]at he;have habs:=congrArg Rat.abs he;rw[aFo,bD,bD]at habs;have e6:((2:Rat)^(i-j-more)).abs=(2:Rat)^(i-j-more):=fZ (bN hE0);have e7:((2:Rat)^q).abs=(2:Rat)^q:=fZ (bN (bG q));have hf0:(0:Rat)<=(f:Rat):=by exact_mod_cast Nat.zero_le _
   have e8:((f:Rat)+rho).abs=f+rho:=fZ (by grind);have e9:((K:Rat)).abs=((K.natAbs:Nat):Rat):=by have:=vQ (decide (K<0)) K.natAbs 0;rw[aMc K (decide (K<0)) 0 λ_=>rfl]at this;simpa using this
   rw[e6,e7,e8,e9]at habs;have h1:((2^53:Nat):Rat)<=(f:Rat):=kF (hfl hm);have h2:((K.natAbs:Nat):Rat)<((2^53:Nat):Rat):=oA hK;have hlt2:i-j-more<q:=by refine xL (Rat.not_le.1 λhle=>?_);have g1:((K.natAbs:Nat):Rat)*(2:Rat)^q<=((K.natAbs:Nat):Rat)*(2:Rat)^(i-j-more):=dI hle (by exact_mod_cast Nat.zero_le _);have g2:((K.natAbs:Nat):Rat)*(2:Rat)^(i-j-more)<((f:Rat)+rho)*(2:Rat)^(i-j-more):=Rat.mul_lt_mul_of_pos_right (by grind) hE0;grind
   obtain⟨c,hc⟩:=Int.eq_ofNat_of_zero_le (show 0<=q-(i-j-more) by omega);have h3:((f:Rat)+rho)=((K.natAbs*2^c:Nat):Rat):=by
    have g3:(2:Rat)^q=(2:Rat)^(c:Int)*(2:Rat)^(i-j-more):=by rw[<-bO];congr 1;omega
    rw[g3,cN]at habs;have g4:(((f:Rat)+rho)-((K.natAbs*2^c:Nat):Rat))*(2:Rat)^(i-j-more)=0:=by push_cast at *;grind
    rcases Rat.mul_eq_zero.1 g4 with h|h<;>grind
   have h4:rho=0:=by
    have g5:(f:Rat)<=((K.natAbs*2^c:Nat):Rat):=by grind
    have g6:((K.natAbs*2^c:Nat):Rat)<((f+1:Nat):Rat):=by push_cast at *;grind
    have g7:f<=K.natAbs*2^c:=by exact_mod_cast g5
    have g8:K.natAbs*2^c<f+1:=aZw g6;have g9:K.natAbs*2^c=f:=by omega
    rw[g9]at h3;grind
   have h5:(r:Rat)=0:=by have:=Rat.div_mul_cancel (a:=(r:Rat)) (b:=(n:Rat)) (by grind);rw[hR,h4]at this;grind
   exact h0 (by exact_mod_cast h5)
theorem aDr(x:Rat):x<=x.abs/\-x.abs<=x:=by have:=(aA (x:=x) (y:=x.abs)).1 R9;grind
theorem tri{x y z:Rat}:(x-z).abs<=(x-y).abs+(y-z).abs:=by have:=aL (x-y) (y-z);rw[show x-y+(y-z)=x-z by grind]at this;exact this
theorem tU{a b:Nat}{x y:Rat}(ha:Is a x)(hb:Is b y)(hy:y≠0)(h:(x/y).abs<(2:Rat)^(1022:Int)):
  ∃r z,fbF .quo a b=some r/\Is r z/\bQc (x/y) z:=by
 obtain⟨_,s,m,i,h1,rfl⟩:=ha;obtain⟨_,t,n,j,h2,rfl⟩:=hb;have hn:n≠0:=by rintro rfl;exact hy (yH _ _)
 obtain⟨c,k,e,h3,h4,h5⟩:=@aMx s t m n i j hn;generalize dv s m i/dv t n j=q at *
 generalize hd:dv c k e=v at *
 have hv:v.abs<=q.abs+q.abs*(2:Rat)^(-54:Int):=by have:=aL (v-q) q;rw[show v-q+q=v by grind]at this;grind
 have p54:(2:Rat)^(-54:Int)<=1:=by have:=cY (show(-54:Int)<=0 by decide);rwa[Rat.zpow_zero]at this
 have hq0:=aH q;have hlt:v.abs<(2:Rat)^(1023:Int):=by have g1:=dI p54 hq0;have g2:=fA 1023;rw[show(1023-1:Int)=1022 by decide]at g2;grind
 rw[<-hd]at hlt;obtain⟨z,g1,g2⟩:=sJ hlt;rw[hd]at g2;refine⟨_,z,?_,g1,?_,?_⟩
 ·rw[tV];show double.div a b=_;unfold Format.div;rw[h1,h2];have:double.fractionBits+2=54:=by decide
  rw[this,h3];rfl
 ·have ht:=@tri z v q;have f1:q.abs*(2:Rat)^(-54:Int)<=q.abs:=by have:=dI p54 hq0;grind
  have p0:=bG (-54);have p1:=bG (-53);rcases g2.near with h|h
  ·left;have p53:(2:Rat)^(-53:Int)<=1/2:=by have:=cY (show(-53:Int)<=-1 by decide);have h0:=fA 0;rw[Rat.zpow_zero,show(0-1:Int)=-1 by decide]at h0;grind
   grind
  ·by_cases hc:q.abs*(2:Rat)^(-54:Int)<=(2:Rat)^(-1075:Int)
   ·right;have:=fA (-1074);rw[show(-1074-1:Int)=-1075 by decide]at this;grind
   ·left;grind
 ·intro K q' hK hq' he;have hx:=h5 K q' hK he;rw[hx]at g2;exact g2.rep K q' hK hq' he
theorem vK(n:Nat):∀(todo root:Nat),root*root<=n->n<(root+2^todo)*(root+2^todo)->
  Datum.rootFrom n todo root*Datum.rootFrom n todo root<=n/\n<(Datum.rootFrom n todo root+1)*(Datum.rootFrom n todo root+1)
 |0,root,h1,h2=>by unfold Datum.rootFrom;exact⟨h1,by simpa using h2⟩
 |todo+1,root,h1,h2=>by
  unfold Datum.rootFrom;simp only[Nat.shiftLeft_eq,Nat.one_mul];split
  ·rename_i h;refine vK n todo _ h ?_;have:root+2^todo+2^todo=root+2^(todo+1):=by rw[Nat.pow_succ];omega
   rw[this];exact h2
  ·rename_i h;exact vK n todo _ h1 (by omega)
theorem bFu{m:Nat}{i:Int}(hm:m≠0):∃k e,Datum.root 54 (.number false m i)=some (.number false k e)/\
  (dv false k e*dv false k e-dv false m i).abs<=dv false m i*(2:Rat)^(-53:Int)/\0<dv false k e:=by
 refine⟨_,_,by unfold Datum.root;simp only[hm,if_false,Bool.false_eq_true];rfl,?_⟩;generalize hmore:2*54-m.log2=more;have hpar:(i-((more+((i-(more:Int))%2).toNat:Nat):Int))%2=0:=by omega
 generalize hm2:more+((i-(more:Int))%2).toNat=mo at *
 have hmo:108-m.log2<=mo:=by omega
 generalize hn:m <<< mo=n;have hnm:n=m*2^mo:=by rw[<-hn,Nat.shiftLeft_eq]
 have hL1:2^m.log2<=m:=Nat.log2_self_le hm;have hn108:2^54*2^54<=n:=by rw[hnm,<-Nat.pow_add];have h1:=Nat.mul_le_mul_right (2^mo) hL1;rw[<-Nat.pow_add]at h1;have h2:2^(54+54)<=2^(m.log2+mo):=Nat.pow_le_pow_right (by decide) (by omega);omega
 obtain⟨r1,r2⟩:=vK n (n.log2/2+1) 0 (by omega) (by have h1:n<2^(n.log2+1):=Nat.lt_log2_self;have h2:2^(n.log2+1)<=2^((n.log2/2+1)+(n.log2/2+1)):=Nat.pow_le_pow_right (by decide) (by omega);rw[Nat.pow_add 2 (n.log2/2+1) (n.log2/2+1)]at h2;simp only[Nat.zero_add];omega);generalize Datum.rootFrom n (n.log2/2+1) 0=w at *
 have hw:2^54<=w:=by
  refine Nat.not_lt.1 λhlt=>?_
  have:=Nat.mul_le_mul (show w+1<=2^54 by omega) (show w+1<=2^54 by omega);omega
 generalize hE:(i-(mo:Int))/2=E at *
 have hiE:i=(mo:Int)+(E+E):=by omega
 have hu:=bG E;have hx:dv false m i=(n:Rat)*((2:Rat)^E*(2:Rat)^E):=by unfold dv sg;rw[hiE,bO,bO,cN,hnm];push_cast;simp;grind
 have hv:dv false (2*w+(w*w != n).toNat) (E-1)=((w:Rat)+(if w*w=n then 0 else 1/2))*(2:Rat)^E:=by
  unfold dv sg;rw[fA E];by_cases h0:w*w=n
  ·have:(w*w != n)=false:=by simp[h0]
   simp only[this,Bool.toNat_false,h0,if_true];push_cast;simp;grind
  ·have:(w*w != n)=true:=by simp[h0]
   simp only[this,Bool.toNat_true,h0,if_false];push_cast;simp;grind
 rw[hx,hv];have hw0:(0:Rat)<(w:Rat):=by
  have:0<w:=by omega
  exact_mod_cast this
 generalize (2:Rat)^E=u at *
 constructor
 ·by_cases h0:w*w=n
  ·simp only[h0,if_true];have:((n:Nat):Rat)=(w:Rat)*w:=by rw[<-h0];push_cast;rfl
   have e:(((w:Rat)+0)*u*(((w:Rat)+0)*u)-(n:Rat)*(u*u))=0:=by rw[this];grind
   rw[e,fO];have h1:(0:Rat)<=(n:Rat):=by exact_mod_cast Nat.zero_le _
   exact bU (bU h1 (bU (bN hu) (bN hu))) (bN (bG _))
  ·simp only[h0,if_false];have e:(((w:Rat)+1/2)*u*(((w:Rat)+1/2)*u)-(n:Rat)*(u*u))=((w:Rat)*w+w+1/4-n)*(u*u):=by grind
   rw[e,bD,fZ (bU (bN hu) (bN hu))];have n1:w*w+1<=n:=by omega
   have n2:n<=w*w+w+w:=by
    have:(w+1)*(w+1)=w*w+w+w+1:=by grind
    omega
   have q1:(w:Rat)*w+1<=n:=by exact_mod_cast n1
   have q2:(n:Rat)<=(w:Rat)*w+w+w:=by exact_mod_cast n2
   have q3:((w:Rat)*w+w+1/4-n).abs<=w:=by rw[aA];constructor<;>grind
   have q4:(w:Rat)<=n*(2:Rat)^(-53:Int):=by
    have f1:((2^53:Nat):Rat)<=(w:Rat):=kF (by omega);have f2:(2:Rat)^(53:Int)=((2^53:Nat):Rat):=cN 53;have f3:(2:Rat)^(53:Int)*(2:Rat)^(-53:Int)=1:=by rw[<-bO,show(53+-53:Int)=0 by decide,Rat.zpow_zero]
    have f4:=dI f1 (bN hw0);rw[<-f2]at f4;have f5:=cG (cR f4 (show(w:Rat)*w<=n by grind)) (bN (bG (-53)));have f6:(w:Rat)*(2:Rat)^(53:Int)*(2:Rat)^(-53:Int)=w:=by rw[Rat.mul_assoc,f3];grind
    rwa[f6]at f5
   have:=cG (cR q3 q4) (bU (bN hu) (bN hu));grind
 ·refine Rat.mul_pos ?_ hu;split<;>grind
theorem aQj{a:Nat}{x:Rat}(ha:Is a x)(hx:0<x)(hlt:x<(2:Rat)^(1000:Int))(hgt:(2:Rat)^(-1000:Int)<x):
  ∃r z,double.sqrt a=some r/\Is r z/\0<z/\(z*z-x).abs<=x*(2:Rat)^(-51:Int):=by
 obtain⟨_,s,m,i,h1,h2⟩:=ha;have hm:m≠0:=by rintro rfl;rw[yH]at h2;grind
 have hs:s=false:=by
  cases s;· rfl
  ·exfalso;have h3:(0:Rat)<=(m:Rat)*(2:Rat)^i:=bU (by exact_mod_cast Nat.zero_le _) (bN (bG i));unfold dv sg at h2;simp only[if_true]at h2;grind
 subst hs;obtain⟨k,e,h3,h4,h5⟩:=@bFu m i hm;rw[h2]at h4;generalize hd:dv false k e=v at *
 have e53:(2:Rat)^(-53:Int)<=1/100:=by
  have h6:=cY (show(-53:Int)<=-7 by decide);have h7:(2:Rat)^(-7:Int)*(2:Rat)^(7:Int)=1:=by rw[<-bO,show(-7+7:Int)=0 by decide,Rat.zpow_zero]
  have h8:(2:Rat)^(7:Int)=128:=by rw[show(7:Int)=((7:Nat):Int) by rfl,cN];rfl
  rw[h8]at h7;grind
 have e51:(2:Rat)^(-51:Int)=4*(2:Rat)^(-53:Int):=by have h6:=fA (-51);have h7:=fA (-52);rw[show(-51-1:Int)=-52 by decide]at h6;rw[show(-52-1:Int)=-53 by decide]at h7;grind
 have p53:=bG (-53);have hv2:=aA.1 h4;have hvlt:v<(2:Rat)^(1023:Int):=by
  refine Rat.not_le.1 λhle=>?_
  have h6:(2:Rat)^(1023:Int)*(2:Rat)^(1023:Int)<=v*v:=
   cR (dI hle (bN (bG 1023))) (cG hle (bN h5))
  rw[<-bO]at h6;have h7:=cY (show(1001:Int)<=1023+1023 by decide);have h8:=fA 1001;rw[show(1001-1:Int)=1000 by decide]at h8;grind
 have hvgt:(2:Rat)^(-1000:Int)<=v:=by
  refine Rat.not_lt.1 λhl=>?_
  have h6:v*v<=(2:Rat)^(-1000:Int)*(2:Rat)^(-1000:Int):=
   cR (dI (bN hl) (bN h5)) (cG (bN hl) (bN (bG (-1000))))
  rw[<-bO]at h6;have h7:=cY (show(-1000+-1000:Int)<=-1001 by decide);have h8:=fA (-1000);rw[show(-1000-1:Int)=-1001 by decide]at h8;grind
 have hvabs:v.abs=v:=fZ (bN h5);obtain⟨z,g1,g2⟩:=sJ (s:=false) (m:=k) (i:=e) (by rw[hd,hvabs];exact hvlt);rw[hd]at g2;have hD:(z-v).abs<=v*(2:Rat)^(-53:Int):=by
  rcases g2.near with h|h;· rwa[hvabs]at h
  ·have h6:=cG hvgt (bN p53);rw[<-bO]at h6;have h7:=cY (show(-1075:Int)<=-1000+-53 by decide);grind
 refine⟨_,z,?_,g1,?_,?_⟩
 ·show Format.sqrt double a=_;unfold Format.sqrt;rw[h1];have:double.fractionBits+2=54:=by decide
  rw[this,h3];rfl
 ·have h6:=aA.1 hD;have h7:=dI e53 (bN h5);grind
 ·have h6:=aA.1 hD;generalize (2:Rat)^(-53:Int)=ep at *
  rw[e51];generalize hDD:z-v=D at *
  have hz:z=v+D:=by grind
  have h7:=dI h6.1 (bN h5);have h8:=dI h6.2 (bN h5);have h9:=bU (show 0<=v*ep-D by grind) (show 0<=v*ep+D by grind);have h10:=dI e53 (bU (bU (bN h5) (bN h5)) (bN p53));have h11:0<=D*D:=by
   rcases(Rat.le_total:0<=D\/D<=0) with h|h;· exact bU h h
   ·have:=bU (show 0<=-D by grind) (show 0<=-D by grind);grind
  have h12:v*v<=x+x*ep:=by grind
  have h13:=cG h12 (bN p53);have h14:=dI e53 (bU (bN hx) (bN p53));rw[aA,hz];constructor<;>grind
theorem aK{R:Type}{o:Option Nat}{n:Nat}{k:Nat->Option R}(h:o=some n):aM o k=k n:=by subst h;simp[aM,cB]
theorem xD{n:Int}(h:n.natAbs<2^53):((n:Rat)).abs<(2:Rat)^(1023:Int):=by
 have h1:((n:Rat)).abs=((n.natAbs:Nat):Rat):=by have:=vQ (decide (n<0)) n.natAbs 0;rw[aMc n (decide (n<0)) 0 λ_=>rfl]at this;simpa using this
 rw[h1];have h2:((n.natAbs:Nat):Rat)<((2^53:Nat):Rat):=oA h;have h4:(2:Rat)^(53:Int)<=(2:Rat)^(1023:Int):=cY (by decide);grind
theorem aBv{n:Int}{z:Rat}(h:n.natAbs<2^53)(hr:Rnd (n:Rat) z):z=n:=hr.rep n 0 h (by decide) (by simp)
theorem bJ5{a b:Nat}{x y:Int}(ha:Is a x)(hb:Is b y)(h:(x+y).natAbs<2^53):∃r,fbF .add a b=some r/\Is r ((x+y:Int):Rat):=by
 have e:((x+y:Int):Rat)=(x:Rat)+y:=by push_cast;rfl
 obtain⟨r,z,h1,h2,h3⟩:=mJ ha hb (by rw[<-e];exact xD h);rw[<-e]at h3;rw[aBv h h3]at h2;exact⟨r,h1,h2⟩
theorem aQm{a b:Nat}{x y:Int}(ha:Is a x)(hb:Is b y)(h:(x-y).natAbs<2^53):∃r,fbF .sub a b=some r/\Is r ((x-y:Int):Rat):=by
 have e:((x-y:Int):Rat)=(x:Rat)-y:=by push_cast;rfl
 obtain⟨r,z,h1,h2,h3⟩:=qD ha hb (by rw[<-e];exact xD h);rw[<-e]at h3;rw[aBv h h3]at h2;exact⟨r,h1,h2⟩
theorem aJl{a b:Nat}{x y:Int}(ha:Is a x)(hb:Is b y)(h:(x*y).natAbs<2^53):∃r,fbF .mul a b=some r/\Is r ((x*y:Int):Rat):=by
 have e:((x*y:Int):Rat)=(x:Rat)*y:=by push_cast;rfl
 obtain⟨r,z,h1,h2,h3⟩:=kH ha hb (by rw[<-e];exact xD h);rw[<-e]at h3;rw[aBv h h3]at h2;exact⟨r,h1,h2⟩
theorem hJ:Is 0 ((0:Int):Rat):=⟨by decide,false,0,-1074,by decide,yH _ _⟩
theorem qT{a b:Nat}{x y:Rat}(ha:Is a x)(hb:Is b y):eqF a b=decide (x=y):=by
 unfold eqF;rw[aAg ha hb];by_cases h1:x<y
 ·have:¬x=y:=by grind
  simp[h1,this]
 ·by_cases h2:x=y
  ·subst h2;simp[h1]
  ·simp[h1,h2]
theorem bIp{a b:Nat}{x y:Rat}(ha:Is a x)(hb:Is b y):neF a b=!decide (x=y):=by rw[<-qT ha hb];unfold neF eqF;rfl
theorem sD{a b:Nat}{x y:Rat}(ha:Is a x)(hb:Is b y):leF a b=decide (x<=y):=by
 unfold leF;rw[aAg ha hb];by_cases h1:x<y
 ·have:x<=y:=by grind
  simp[h1,this]
 ·by_cases h2:x=y
  ·subst h2;simp[h1]
  ·have:¬x<=y:=by grind
   simp[h1,h2,this]
theorem aHc{x y:Int}:((x:Rat)=(y:Rat))↔x=y:=by
 constructor;· intro h;exact_mod_cast h
 ·rintro rfl;rfl
def IsC(a b:Nat)(x y:Int):Prop:=Is a x/\Is b y
theorem aDk{a b c d:Nat}{x y u v:Int}(h1:IsC a b x y)(h2:IsC c d u v)(b1:(x-u).natAbs<2^53)(b2:(y-v).natAbs<2^53):
  ∃p q,IsC p q (x-u) (y-v)/\∀(R:Type)(k:KNN R),gJ R a b c d k=k p q:=by
 obtain⟨p,e1,g1⟩:=aQm h1.1 h2.1 b1;obtain⟨q,e2,g2⟩:=aQm h1.2 h2.2 b2;exact⟨p,q,⟨g1,g2⟩,λR k=>by unfold gJ;rw[aK e1,aK e2]⟩
theorem aPl{a b:Nat}{x y:Int}(h:IsC a b x y){R:Type}(k:KBO R):bJ R a b k=k (decide (x=0/\y=0)):=by
 unfold bJ;rw[aJ,qT h.1 hJ];by_cases h1:x=0
 ·subst h1;simp only[decide_true];rw[aJ,qT h.2 hJ];by_cases h2:y=0
  ·subst h2;simp
  ·simp[h2]
 ·have:¬((x:Rat)=((0:Int):Rat)):=λe=>h1 (aHc.1 e)
  simp[h1]
theorem aDq(a:Nat):wV a=a%2^63:=by
 unfold wV;have h1:((BitVec.ofInt 64 a &&& ~~~(BitVec.ofInt 64 9223372036854775808)).toNat:Nat)=a%2^63:=by
  have e1:BitVec.ofInt 64 a=BitVec.ofNat 64 a:=by simp
  have e2:(~~~(BitVec.ofInt 64 9223372036854775808))=BitVec.ofNat 64 (2^63-1):=by decide
  rw[e1,e2,BitVec.toNat_and,BitVec.toNat_ofNat,BitVec.toNat_ofNat];rw[show(2^63-1)%2^64=2^63-1 by decide,Nat.and_two_pow_sub_one_eq_mod];omega
 rw[h1];have h3:K9.u64.wrap ((a%2^63:Nat):Int)=((a%2^63:Nat):Int):=by unfold K9.wrap;simp[K9.bits,K9.signed];omega
 rw[h3];rfl
theorem kW{a:Nat}{x:Rat}(h:Is a x):Is (wV a) x.abs:=by
 obtain⟨hw,s,m,i,h1,rfl⟩:=h;refine⟨by rw[aDq];omega,false,m,i,?_,by rw[vQ];unfold dv sg;simp⟩;rw[aDq];have e1:double.signWeight=2^63:=by decide
 unfold Format.read at *
 simp only[e1]at h1⊢;rw[Nat.mod_mod];have:(a%2^63/2^63%2==1)=false:=by rw[Nat.div_eq_of_lt (Nat.mod_lt _ (by decide))];rfl
 rw[this];split at h1
 ·rename_i hc;simp only[hc,if_true];injection h1 with g1 g2 g3
  rw[g2,g3]
 ·split at h1
  ·rename_i hc1 hc;simp only[hc,if_true,hc1,if_false];injection h1 with g1 g2 g3
   rw[g2,g3]
  ·split at h1<;>cases h1
theorem aSe:Is 4787326403894837248 ((2^40:Int):Rat):=by
 refine⟨by decide,false,2^52,-12,by decide,?_⟩;have h1:((2^52:Nat):Rat)=(2:Rat)^((52:Nat):Int):=(cN 52).symm;have h2:((2^40:Int):Rat)=(2:Rat)^((40:Nat):Int):=by rw[cN];exact congrArg (λz:Int=>(z:Rat)) (by decide:(2^40:Int)=((2^40:Nat):Int))
 unfold dv sg;rw[h1,h2,<-bO,if_neg (by decide),Rat.one_mul];rfl
theorem kJ{n:Int}{N:Nat}(h:n.natAbs<=N):((n:Rat)).abs<=((N:Int):Rat):=by
 rw[aA];constructor
 ·have:(-(N:Int))<=n:=by omega
  have h2:((-(N:Int):Int):Rat)<=(n:Rat):=by exact_mod_cast this
  push_cast at h2⊢;exact h2
 ·have:n<=(N:Int):=by omega
  exact_mod_cast this
def cJ:aA1:=aKu kO
def jQ:aNo:=yD cJ
def cK:KCB:=aTb jQ
theorem vN{a:Nat}{x:Int}(h:Is a x)(hb:x.natAbs<=2^40){R:Type}(k:KBO R):cJ R a 4787326403894837248 k=k true:=by unfold cJ aKu kO;show aW (leF (wV a) 4787326403894837248) (λt=>k t)=k true;rw[aJ,sD (kW h) aSe];have:((x:Rat)).abs<=((2^40:Int):Rat):=kJ (N:=2^40) hb;simp only[this,decide_true]
theorem aHl{a b:Nat}{x y:Int}(h:IsC a b x y)(h1:x.natAbs<=2^40)(h2:y.natAbs<=2^40){R:Type}(k:KBO R):cK R a b k=k true:=by unfold cK aTb jQ yD;rw[vN h.1 h1,aJ];simp only;rw[vN h.2 h2];simp only[aJ]
theorem aPy{w:Nat}{s:Bool}{m:Nat}{i:Int}(h:double.read w=.number s m i):m<2^53/\-1074<=i/\i<=971:=by
 have e1:double.signWeight=2^63:=by decide
 have e2:double.binade=2^52:=by decide
 have e3:double.infRung=2047*2^52:=by decide
 have e4:double.leastPlace=-1074:=by decide
 unfold Format.read at h;simp only[e1,e2,e3,e4]at h;split at h
 ·injection h with h1 h2 h3
  omega
 ·split at h
  ·injection h with h1 h2 h3
   have:=Nat.mod_lt (w%2^63) (show 0<2^52 by decide);have h5:w%2^63/2^52<2047:=by omega
   omega
  ·split at h<;>cases h
theorem aZa{a:Nat}{x:Rat}(h:Is a x):∃(K:Int)(q:Int),K.natAbs<2^53/\-1074<=q/\q<=971/\x=K*(2:Rat)^q:=by
 obtain⟨_,s,m,i,h1,rfl⟩:=h;obtain⟨b1,b2,b3⟩:=aPy h1;refine⟨if s then -(m:Int) else m,i,?_,b2,b3,?_⟩;· split<;>omega
 ·unfold dv sg;cases s
  ·simp only[Bool.false_eq_true,if_false];have:((m:Int):Rat)=(m:Rat):=by norm_cast
   rw[this];grind
  ·simp only[if_true];push_cast;grind
theorem oW{y:Nat}{v:Rat}(h:Is y v)(hv:(2:Rat)^(-1022:Int)<=v.abs):
  ∃(s:Bool)(E f:Nat),y=(if s then 2^63 else 0)+E*2^52+f/\1<=E/\E<=2046/\f<2^52/\v=dv s (2^52+f) ((E:Int)-1075):=by
 obtain⟨hw,s,m,i,h1,h2⟩:=h;have e1:double.signWeight=2^63:=by decide
 have e2:double.binade=2^52:=by decide
 have e3:double.infRung=2047*2^52:=by decide
 have e4:double.leastPlace=-1074:=by decide
 unfold Format.read at h1;simp only[e1,e2,e3,e4]at h1;split at h1
 ·exfalso;rename_i hlt;injection h1 with g1 g2 g3
  subst g3;rw[<-h2,vQ]at hv;have h5:(m:Rat)<((2^52:Nat):Rat):=oA (by omega);have h6:=Rat.mul_lt_mul_of_pos_right h5 (bG (-1074));have h7:(2:Rat)^(52:Int)=((2^52:Nat):Rat):=cN 52;rw[<-h7,<-bO,show(52+-1074:Int)=-1022 by decide]at h6;grind
 ·split at h1
  ·rename_i hge hlt;injection h1 with g1 g2 g3
   refine⟨s,y%2^63/2^52,y%2^63%2^52,?_,by omega,by omega,Nat.mod_lt _ (by decide),?_⟩
   ·have hs:(y/2^63%2==1)=s:=g1;cases s
    ·simp only[Bool.false_eq_true,if_false];have:¬(y/2^63%2=1):=by simpa using hs
     omega
    ·simp only[if_true];have:y/2^63%2=1:=by simpa using hs
     omega
   ·rw[<-h2,<-g2,<-g3];congr 1;omega
  ·split at h1<;>cases h1
theorem oQ{s:Bool}{E f:Nat}(h1:1<=E)(h2:E<=2046)(hf:f<2^52):Is ((if s then 2^63 else 0)+E*2^52+f) (dv s (2^52+f) ((E:Int)-1075)):=by
 have:=aZb (s:=s) (t:=E-1) (k:=2^52+f) (by omega) (.inr (by omega)) (by omega);have e1:double.signWeight=2^63:=by decide
 have e:double.word s ((E-1)*2^52+(2^52+f))=(if s then 2^63 else 0)+E*2^52+f:=by
  unfold Format.word;rw[e1];have:(E-1)*2^52+(2^52+f)=E*2^52+f:=by omega
  cases s;· simp only[Bool.false_eq_true,if_false];omega
  ·simp only[if_true];omega
 rw[e,show(-1074+((E-1:Nat):Int))=(E:Int)-1075 by omega]at this;exact this
theorem qI{n:Int}(h1:-9223372036854775808<=n)(h2:n<9223372036854775808):K9.i64.wrap n=n:=by unfold K9.wrap;simp[K9.bits,K9.signed];split<;>omega
theorem bCp{n:Int}(h1:0<=n)(h2:n<18446744073709551616):K9.u64.wrap n=n:=by unfold K9.wrap;simp only[K9.bits,K9.signed,Bool.false_and,Bool.false_eq_true,if_false];omega
theorem aB4(a:Nat)(h:a<2^64):(BitVec.ofInt 64 (a:Int)).toNat=a:=by
 have:BitVec.ofInt 64 (a:Int)=BitVec.ofNat 64 a:=by simp
 rw[this,BitVec.toNat_ofNat];exact Nat.mod_eq_of_lt h
theorem aWu{a b:Nat}(ha:a<2^64)(hb:b<2^64):bQd a b=((a &&&b:Nat):Int):=by unfold bQd;rw[BitVec.toNat_and,aB4 a ha,aB4 b hb];have:a &&&b<=a:=Nat.and_le_left;exact bCp (by omega) (by omega)
theorem bJ8{a b:Nat}(ha:a<2^63)(hb:b<2^64):bHc a b=((a &&&b:Nat):Int):=by unfold bHc;rw[BitVec.toNat_and,aB4 a (by omega),aB4 b hb];have:a &&&b<=a:=Nat.and_le_left;exact qI (by omega) (by omega)
theorem bIv{a b:Nat}(ha:a<2^64)(hb:b<2^64):orU a b=((a |||b:Nat):Int):=by unfold orU;rw[BitVec.toNat_or,aB4 a ha,aB4 b hb];have:a |||b<2^64:=Nat.or_lt_two_pow ha hb;exact bCp (by omega) (by omega)
theorem aUi{a b:Nat}(ha:a<2^64)(hb:b<2^64):rT a b=((a &&&(2^64-1-b):Nat):Int):=by unfold rT;rw[BitVec.toNat_and,BitVec.toNat_not,aB4 a ha,aB4 b hb];have:a &&&(2^64-1-b)<=a:=Nat.and_le_left;exact bCp (by omega) (by omega)
theorem bBa{y:Nat}:bQr y 52=((y/2^52:Nat):Int):=by
 unfold bQr;have:(2:Int)^min (52:Int).toNat K9.u64.bits=4503599627370496:=by decide
 rw[this];have h:(2:Nat)^52=4503599627370496:=by decide
 rw[h,Int.fdiv_eq_ediv_of_nonneg _ (by decide)];omega
theorem bNz{n:Nat}(h:n<2^12):cA3 n 52=((n*2^52:Nat):Int):=by
 unfold cA3;have:(2:Int)^min (52:Int).toNat K9.u64.bits=4503599627370496:=by decide
 rw[this];have h2:(2:Nat)^52=4503599627370496:=by decide
 rw[h2];rw[bCp (by omega) (by omega)];omega
theorem aR1{a b:Nat}{x y:Rat}(ha:Is a x)(hb:Is b y):gtF a b=decide (y<x):=by
 unfold gtF;rw[aAg ha hb];by_cases h1:x<y
 ·have:¬y<x:=by grind
  simp[h1,this]
 ·by_cases h2:x=y
  ·subst h2;simp[h1]
  ·have:y<x:=by grind
   simp[h1,h2,this]
theorem zZ{a b:Nat}{x y:Rat}(ha:Is a x)(hb:Is b y):ltF a b=decide (x<y):=by
 unfold ltF;rw[aAg ha hb];by_cases h1:x<y;· simp[h1]
 ·by_cases h2:x=y
  ·subst h2;simp[h1]
  ·simp[h1,h2]
theorem tB{a b:Nat}{x y:Rat}(ha:Is a x)(hb:Is b y):geF a b=decide (y<=x):=by
 unfold geF;rw[aAg ha hb];by_cases h1:x<y
 ·have:¬y<=x:=by grind
  simp[h1,this]
 ·by_cases h2:x=y
  ·subst h2;simp[h1]
  ·have:y<=x:=by grind
   simp[h1,h2,this]
theorem wE(K:Int):((K:Rat)).abs=((K.natAbs:Nat):Rat):=by have:=vQ (decide (K<0)) K.natAbs 0;rw[aMc K (decide (K<0)) 0 λ_=>rfl]at this;simpa using this
theorem sK(q:Int):((2:Rat)^q).abs=(2:Rat)^q:=fZ (bN (bG q))
theorem bH8:Is 9218868437227405311 (((2^53-1:Nat):Rat)*(2:Rat)^(971:Int)):=by refine⟨by decide,false,2^53-1,971,by decide,?_⟩;unfold dv sg;rw[if_neg (by decide),Rat.one_mul]
theorem aGx{a:Nat}{x:Rat}(h:Is a x):x.abs<=((2^53-1:Nat):Rat)*(2:Rat)^(971:Int):=by obtain⟨K,q,h1,h2,h3,rfl⟩:=aZa h;rw[bD,wE,sK];have f1:((K.natAbs:Nat):Rat)<=((2^53-1:Nat):Rat):=kF (by omega);have f2:=cG f1 (bN (bG q));have f3:=dI (cY h3) (show(0:Rat)<=((2^53-1:Nat):Rat) by exact_mod_cast Nat.zero_le _);exact cR f2 f3
def xX:KFB:=aY6 kO
def dG:KFB:=aYj kO
def aP:KCB:=aNr dG
def aVl:aH6:=bUa kO
def mR:aH6:=aRv aG xX xY aVl
def pB:aKy:=aSi aG aIp xX xY aVl
def wP:aKy:=bI9 pB
def sA:KCF:=aL8 kO
def yU:bQa:=aKj sA mR wP
def aGs:KFF:=λR a k=>aM (double.sqrt a) k
def cQ:KCF:=aJf xX xY sA yU wR aGs wP
def rN:gU:=bXf kO
theorem oU{a:Nat}{x:Rat}(h:Is a x){R:Type}(k:KBO R):xX R a k=k false:=by
 show aW (gtF (wV a) 9218868437227405311) (λt=>k t)=k false;rw[aJ,aR1 (kW h) bH8];have:=aGx h;have:¬(((2^53-1:Nat):Rat)*(2:Rat)^(971:Int)<x.abs):=by grind
 simp only[this,decide_false]
theorem lX{a:Nat}{x:Rat}(h:Is a x){R:Type}(k:KBO R):xY R a k=k false:=by unfold xY;rw[aJ,bIp h h];simp
theorem rX{a:Nat}{x:Rat}(h:Is a x){R:Type}(k:KBO R):dG R a k=k true:=by show aW (leF (wV a) 9218868437227405311) (λt=>k t)=k true;rw[aJ,sD (kW h) bH8];simp only[aGx h,decide_true]
theorem nK{a b:Nat}{x y:Rat}(h:Is a x)(g:Is b y){R:Type}(k:KBO R):aP R a b k=k true:=by unfold aP aNr;rw[rX h,aJ];simp only;rw[rX g];simp only[aJ]
theorem aSc:Is 4503599627370496 ((2:Rat)^(-1022:Int)):=by
 have:=oQ (s:=false) (E:=1) (f:=0) (by decide) (by decide) (by decide);have e:dv false (2^52+0) (((1:Nat):Int)-1075)=(2:Rat)^(-1022:Int):=by unfold dv sg;rw[if_neg (by decide),Rat.one_mul,Nat.add_zero,<-cN,<-bO];rfl
 rw[e]at this;exact this
theorem bTc:Is 4841369599423283200 ((2:Rat)^(52:Int)):=by
 have:=oQ (s:=false) (E:=1075) (f:=0) (by decide) (by decide) (by decide);have e:dv false (2^52+0) (((1075:Nat):Int)-1075)=(2:Rat)^(52:Int):=by unfold dv sg;rw[if_neg (by decide),Rat.one_mul,Nat.add_zero,<-cN,<-bO];rfl
 rw[e]at this;exact this
theorem bS6:Is 4368491638549381120 ((2:Rat)^(-53:Int)):=by
 have:=oQ (s:=false) (E:=970) (f:=0) (by decide) (by decide) (by decide);have e:dv false (2^52+0) (((970:Nat):Int)-1075)=(2:Rat)^(-53:Int):=by unfold dv sg;rw[if_neg (by decide),Rat.one_mul,Nat.add_zero,<-cN,<-bO];rfl
 rw[e]at this;exact this
theorem aMd:Is 4607182418800017408 1:=by
 have:=oQ (s:=false) (E:=1023) (f:=0) (by decide) (by decide) (by decide);have e:dv false (2^52+0) (((1023:Nat):Int)-1075)=1:=by unfold dv sg;rw[if_neg (by decide),Rat.one_mul,Nat.add_zero,<-cN,<-bO];exact Rat.zpow_zero 2
 rw[e]at this;exact this
theorem jG(q:Int):(2:Rat)^q*(2:Rat)^(-q)=1:=by rw[<-bO,show q+-q=0 by omega,Rat.zpow_zero]
theorem aMj{R:Type}(a:Nat)(k:Nat->Int->Option R):aVl R a k=aW (ltF (wV a) 4503599627370496) λt=>match t with
 |true=>aM (fbF .mul a 4841369599423283200) λy=>k y (-52)
 |false=>k a 0:=rfl
theorem aJr{a:Nat}{x:Rat}(h:Is a x)(hx:x≠0):∃(y:Nat)(e:Int),(e=0\/e=-52)/\Is y (x*(2:Rat)^(-e))/\(2:Rat)^(-1022:Int)<=(x*(2:Rat)^(-e)).abs/\
  ∀(R:Type)(k:Nat->Int->Option R),aVl R a k=k y e:=by
 by_cases hs:x.abs<(2:Rat)^(-1022:Int)
 ·obtain⟨K,q,k1,k2,k3,hK⟩:=aZa h;have hlt:(x*(2:Rat)^(52:Int)).abs<(2:Rat)^(1023:Int):=by rw[bD,sK];have:=Rat.mul_lt_mul_of_pos_right hs (bG 52);rw[<-bO]at this;have h2:=cY (show(-1022+52:Int)<=1023 by decide);grind
  obtain⟨y,z,e1,e2,e3⟩:=kH h bTc hlt;have hz:z=x*(2:Rat)^(52:Int):=e3.rep K (q+52) k1 (by omega) (by rw[hK,bO];grind);rw[hz]at e2;refine⟨y,-52,.inr rfl,by simpa using e2,?_,λR k=>?_⟩
  ·have hK0:1<=K.natAbs:=by
    rcases Nat.eq_zero_or_pos K.natAbs with h0|h0
    ·have:K=0:=by omega
     subst this;exact absurd (by rw[hK];simp) hx
    ·exact h0
   have f1:((1:Nat):Rat)<=((K.natAbs:Nat):Rat):=kF hK0;have f2:=cG f1 (bN (bG q));rw[show(-(-52:Int))=52 by decide,bD,sK,hK,bD,wE,sK];have f3:=cG f2 (bN (bG 52));have f4:((1:Nat):Rat)*(2:Rat)^q*(2:Rat)^(52:Int)=(2:Rat)^(q+52):=by rw[bO];simp
   rw[f4]at f3;exact cR (cY (by omega)) f3
  ·rw[aMj,aJ,zZ (kW h) aSc];simp only[hs,decide_true];rw[aK e1]
 ·refine⟨a,0,.inl rfl,by simpa using h,?_,λR k=>?_⟩
  ·simp only[Int.neg_zero,Rat.zpow_zero,Rat.mul_one];grind
  ·rw[aMj,aJ,zZ (kW h) aSc];simp only[hs,decide_false]
theorem aXv{s:Bool}{E f:Nat}(hE:E<=2046)(hf:f<2^52):bQd (bQr ((((if s then 2^63 else 0)+E*2^52+f:Nat)):Int) 52) 2047=(E:Int):=by
 have h1:((if s then 2^63 else 0)+E*2^52+f)/2^52=(if s then 2048 else 0)+E:=by
  cases s;· simp only[Bool.false_eq_true,if_false];omega
  ·simp only[if_true];omega
 rw[bBa,h1];have h2:=aWu (a:=(if s then 2048 else 0)+E) (b:=2047) (by split<;>omega) (by decide);have h3:((if s then 2048 else 0)+E) &&&2047=E:=by
  have:=Nat.and_two_pow_sub_one_eq_mod ((if s then 2048 else 0)+E) 11;rw[show 2^11-1=2047 by decide]at this;rw[this];cases s;· simp only[Bool.false_eq_true,if_false];omega
  ·simp only[if_true];omega
 rw[h3]at h2;exact h2
theorem aA9{s:Bool}{E f:Nat}(hf:f<2^52):(2:Rat)^((E:Int)-1023)<=(dv s (2^52+f) ((E:Int)-1075)).abs/\(dv s (2^52+f) ((E:Int)-1075)).abs<(2:Rat)^((E:Int)-1022):=by rw[vQ];have h1:((2^52:Nat):Rat)<=((2^52+f:Nat):Rat):=kF (by omega);have h2:((2^52+f:Nat):Rat)<((2^53:Nat):Rat):=oA (by omega);have e1:(2:Rat)^((52:Nat):Int)=((2^52:Nat):Rat):=cN 52;have e2:(2:Rat)^((53:Nat):Int)=((2^53:Nat):Rat):=cN 53;have g1:=cG h1 (bN (bG ((E:Int)-1075)));have g2:=Rat.mul_lt_mul_of_pos_right h2 (bG ((E:Int)-1075));rw[<-e1,<-bO,show((52:Nat):Int)+((E:Int)-1075)=(E:Int)-1023 by omega]at g1;rw[<-e2,<-bO,show((53:Nat):Int)+((E:Int)-1075)=(E:Int)-1022 by omega]at g2;exact⟨g1,g2⟩
theorem aL5{a:Nat}{x:Rat}(h:Is a x)(hx:x≠0):∃(w:Nat)(n:Int),(2:Rat)^(n-1)<=x.abs/\x.abs<(2:Rat)^n/\-1100<=n/\n<=1024/\
  ∀(R:Type)(k:Nat->Int->Option R),mR R a k=k w n:=by
 obtain⟨y,e,he,hy,hn,hk⟩:=aJr h hx;obtain⟨s,E,f,rfl,b1,b2,b3,hv⟩:=oW hy hn;obtain⟨d1,d2⟩:=aA9 (s:=s) (E:=E) b3;rw[<-hv,bD,sK]at d1 d2;refine⟨(orU (rT ((((if s then 2^63 else 0)+E*2^52+f:Nat)):Int) 9218868437227405312) 4602678819172646912).toNat,e+(E-1022),?_,?_,by omega,by omega,λR k=>?_⟩;· have:=cG d1 (bN (bG e));rw[<-bO,Rat.mul_assoc,Rat.mul_comm ((2:Rat)^(-e)),jG,Rat.mul_one,show(E:Int)-1023+e=e+(E-1022)-1 by omega]at this;exact this
 ·have:=Rat.mul_lt_mul_of_pos_right d2 (bG e);rw[<-bO,Rat.mul_assoc,Rat.mul_comm ((2:Rat)^(-e)),jG,Rat.mul_one,show(E:Int)-1022+e=e+(E-1022) by omega]at this;exact this
 ·unfold mR aRv;have h0:¬(x=((0:Int):Rat)):=by simpa using hx
  rw[aJ,qT h hJ];simp only[h0,decide_false];rw[oU h,aJ];simp only;rw[lX h,aJ];simp only;rw[hk];unfold aEd aXu;rw[aXv b2 b3];simp only[aI R];rw[qI (n:=(E:Int)) (by omega) (by omega),qI (n:=(E:Int)-1023) (by omega) (by omega),qI (n:=(E:Int)-1023+1) (by omega) (by omega)];rw[show(E:Int)-1023+1=(E:Int)-1022 by omega,qI (by omega) (by omega)]
def bZ9:KFF:=cEi aG aBk mR bX3
def bN1:KFB:=bVj aG
def aSn:KFB:=bIo bN1
def aQc:vS:=bBb aSn kO
def aK6:vS:=bHd kO aBk bDl aSn aQc
def aJ1:KCC:=bAp cQ bZ9 aK6
abbrev KC1:=∀R:Type,Nat->Nat->Option R->Option R
abbrev KF1:=∀R:Type,Nat->Option R->Option R
abbrev yY:=∀R:Type,Nat->Nat->Nat->Option R->Option R
abbrev KE1:=∀R:Type,Int->Nat->Nat->Nat->Nat->Nat->Option R->Option R
abbrev KIF:=∀R:Type,Int->(Nat->Option R)->Option R
def cHe(g:KC1):Sum:=λR args k=>match args with
 |[.complex .f64 a b]=>g R a b (k (.bool true))
 |_=>none
def cHg(g:KF1):Sum:=λR args k=>match args with
 |[.float .f64 a]=>g R a (k (.bool true))
 |_=>none
def aTr(g:yY):Sum:=λR args k=>match args with
 |[.float .f64 a,.float .f64 b,.float .f64 c]=>g R a b c (k (.bool true))
 |_=>none
def cHf(g:KE1):Sum:=λR args k=>match args with
 |[.agg ⟨[.int .u8 kind,.complex .f64 a1 a2,.complex .f64 s1 s2,.float .f64 p]⟩]=>g R kind a1 a2 s1 s2 p (k (.int .i64 0))
 |_=>none
def sIF(g:KIF):Sum:=λR args k=>match args with
 |[.int .i64 n]=>g R n λx=>k (.float .f64 x)
 |_=>none
def bXj:List (Nat×vP)->FuncId->Option vP
 |[],_=>none
 |(n,s)::r,f=>bif N9 n f then some s else bXj r f
end Go.Vm
