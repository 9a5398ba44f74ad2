/- A part; no conditions. -/
import Derived.Test.YtaogignikkjkjaaGreatVmKV
set_option maxRecDepth 1000000
set_option maxHeartbeats 1000000
set_option linter.all false
open Go.Proofs.Tryz renaming prog->P9
open Nat renaming beq->N9
open Bool renaming and_eq_true->B9
open Go renaming Value->V9,Program->Q9,FuncId->F9
namespace Go.Vm
open Ieee
theorem jY{a b A B:Rat}(h1:a.abs<=A)(h2:b.abs<=B):(a*b).abs<=A*B:=by rw[bD];have h3:=cG h1 (aH b);have h4:=dI h2 (show 0<=A by have:=aH a;grind);grind
theorem bR0:(2:Rat)^(-51:Int)<=1/1000:=by
 have h7:(2:Rat)^(-10:Int)*(2:Rat)^(10:Int)=1:=by rw[<-bO,show(-10+10:Int)=0 by decide,Rat.zpow_zero]
 have h8:(2:Rat)^(10:Int)=1024:=by rw[show(10:Int)=((10:Nat):Int) by rfl,cN];rfl
 rw[h8]at h7;grind
def eps:Rat:=(2:Rat)^(-51:Int)
theorem bI:0<eps:=bG _
theorem aB7:eps<=1/1000:=bR0
theorem Rnd.le{x z B:Rat}(h:Rnd x z)(hx:x.abs<=B)(hB:(2:Rat)^(-1000:Int)<=B):(z-x).abs<=eps*B:=by
 have h1:=cY (show(-53:Int)<=-51 by decide);have h2:=dI h1 (aH x);have h3:=cG hx (bN bI);have h4:=cG hB (bN bI);have h5:(2:Rat)^(-1075:Int)<=(2:Rat)^(-1000:Int)*eps:=by unfold eps;rw[<-bO];exact cY (by decide)
 unfold eps at *
 rcases h.near with g|g<;>grind
theorem bQc.le{x z B:Rat}(h:bQc x z)(hx:x.abs<=B)(hB:(2:Rat)^(-1000:Int)<=B):(z-x).abs<=eps*B:=by
 have h1:=cY (show(-52:Int)<=-51 by decide);have h2:=dI h1 (aH x);have h3:=cG hx (bN bI);have h4:=cG hB (bN bI);have h5:(2:Rat)^(-1074:Int)<=(2:Rat)^(-1000:Int)*eps:=by unfold eps;rw[<-bO];exact cY (by decide)
 unfold eps at *
 rcases h.near with g|g<;>grind
theorem tQ{a b B:Rat}(hb:b≠0)(h:a.abs<=B*b.abs):(a/b).abs<=B:=by
 have h1:(a/b*b)=a:=Rat.div_mul_cancel hb;have h2:(a/b).abs*b.abs=a.abs:=by rw[<-bD,h1]
 have hb0:0<b.abs:=by
  rcases(Rat.le_total:0<=b\/b<=0) with g|g;· rw[fZ g];grind
  ·rw[Rat.abs_of_nonpos g];grind
 refine Rat.not_lt.1 λhlt=>?_
 have:=Rat.mul_lt_mul_of_pos_right hlt hb0;grind
theorem bVk{p q r s u v W M K m1 T m2 n U:Rat}(hr:r≠0)(hW:r.abs=W)(hs:s.abs<=W)(hM:0<=M)(hu:u.abs<=M)(hv:v.abs<=M)(hp:p=u*r-v*s)(hq:q=u*s+v*r)(hK:(K-s/r).abs<=eps)(h1:(m1-s*K).abs<=eps*(2*W))(hT:(T-(r+m1)).abs<=eps*(3*W))(h2:(m2-q*K).abs<=eps*(3*(M*W)))(hn:(n-(p+m2)).abs<=eps*(5*(M*W)))(hT0:T≠0)(hU:(U-n/T).abs<=eps*(2*M)):
  (U-u).abs<=32*(M*eps)/\W*(9/10)<=T.abs/\n.abs<=2*M*T.abs:=by
 have he:=bI;have he2:=aB7;have hW0:0<W:=by
  rw[<-hW];rcases(Rat.le_total:0<=r\/r<=0) with g|g;· rw[fZ g];grind
  ·rw[Rat.abs_of_nonpos g];grind
 have hkr:s/r*r=s:=Rat.div_mul_cancel hr;generalize s/r=k at *
 have t0:W<=(r+s*k).abs:=by
  have e:r+s*k=r*(1+k*k):=by rw[<-hkr];grind
  rw[e,bD,hW,fZ (by have:=aT k;grind)];have:=bU (bN hW0) (aT k);grind
 have a1:(s*K-s*k).abs<=W*eps:=by rw[show s*K-s*k=s*(K-k) by grind];exact jY hs hK
 have a2:(T-(r+s*k)).abs<=6*(W*eps):=by have g1:=aL (T-(r+m1)) (m1-s*K);have g2:=aL (T-(r+m1)+(m1-s*K)) (s*K-s*k);rw[show T-(r+m1)+(m1-s*K)+(s*K-s*k)=T-(r+s*k) by grind]at g2;grind
 have qa:q.abs<=2*(M*W):=by have g1:=jY hu hs;have g2:=jY hv (show r.abs<=W by grind);have g3:=aL (u*s) (v*r);rw[hq];grind
 have hMW:=bU hM (bN hW0);have hMWe:=bU hMW (bN he);have a3:(q*K-q*k).abs<=2*(M*W)*eps:=by rw[show q*K-q*k=q*(K-k) by grind];exact jY qa hK
 have a4:(n-(p+q*k)).abs<=10*(M*W*eps):=by have g1:=aL (n-(p+m2)) (m2-q*K);have g2:=aL (n-(p+m2)+(m2-q*K)) (q*K-q*k);rw[show n-(p+m2)+(m2-q*K)+(q*K-q*k)=n-(p+q*k) by grind]at g2;grind
 have a5:p+q*k=u*(r+s*k):=by
  rw[hp,hq];have:v*r*k=v*s:=by rw[<-hkr];grind
  grind
 have a6:(u*(T-(r+s*k))).abs<=M*(6*(W*eps)):=jY hu a2;have a7:(n-u*T).abs<=16*(M*W*eps):=by have g1:=aL (n-(p+q*k)) (-(u*(T-(r+s*k))));rw[abs_neg]at g1;rw[show n-(p+q*k)+-(u*(T-(r+s*k)))=n-u*T by rw[a5];grind]at g1;grind
 have hWe:=dI he2 (bN hW0);have a8:W*(9/10)<=T.abs:=by have g1:=aL ((r+s*k)-T) T;rw[show r+s*k-T+T=r+s*k by grind,lQ]at g1;grind
 have hMe:=bU hM (bN he);have a9:(n/T-u).abs<=18*(M*eps):=by
  have e:n/T-u=(n-u*T)/T:=by
   have g1:n/T*T=n:=Rat.div_mul_cancel hT0;have g2:(n-u*T)/T*T=n-u*T:=Rat.div_mul_cancel hT0;have g3:(n/T-u-(n-u*T)/T)*T=0:=by grind
   rcases Rat.mul_eq_zero.1 g3 with h|h;· grind
   ·exact absurd h hT0
  rw[e];refine tQ hT0 ?_;have:=dI a8 hMe;grind
 refine⟨?_,a8,?_⟩;· have g1:=aL (U-n/T) (n/T-u);rw[show U-n/T+(n/T-u)=U-u by grind]at g1;grind
 ·have g1:=aL (n-u*T) (u*T);rw[show n-u*T+u*T=n by grind]at g1;have g2:=jY hu (show T.abs<=T.abs from Rat.le_refl);have g3:=dI a8 hM;have g4:=dI he2 hMW;grind
theorem bN3{r s W K m1 T:Rat}(hr:r≠0)(hW:r.abs=W)(hs:s.abs<=W)(hK:(K-s/r).abs<=eps)(h1:(m1-s*K).abs<=eps*(2*W))(hT:(T-(r+m1)).abs<=eps*(3*W)):W*(9/10)<=T.abs/\T≠0:=by
 have he2:=aB7;have hW0:0<W:=by
  rw[<-hW];rcases(Rat.le_total:0<=r\/r<=0) with g|g;· rw[fZ g];grind
  ·rw[Rat.abs_of_nonpos g];grind
 have hkr:s/r*r=s:=Rat.div_mul_cancel hr;generalize s/r=k at *
 have t0:W<=(r+s*k).abs:=by
  have e:r+s*k=r*(1+k*k):=by rw[<-hkr];grind
  rw[e,bD,hW,fZ (by have:=aT k;grind)];have:=bU (bN hW0) (aT k);grind
 have a1:(s*K-s*k).abs<=W*eps:=by rw[show s*K-s*k=s*(K-k) by grind];exact jY hs hK
 have a2:(T-(r+s*k)).abs<=6*(W*eps):=by have g1:=aL (T-(r+m1)) (m1-s*K);have g2:=aL (T-(r+m1)+(m1-s*K)) (s*K-s*k);rw[show T-(r+m1)+(m1-s*K)+(s*K-s*k)=T-(r+s*k) by grind]at g2;grind
 have hWe:=dI he2 (bN hW0);have a8:W*(9/10)<=T.abs:=by have g1:=aL ((r+s*k)-T) T;rw[show r+s*k-T+T=r+s*k by grind,lQ]at g1;grind
 refine⟨a8,λh=>?_⟩;rw[h,fO]at a8;grind
theorem aH9{x y e:Rat}(h:(x-y).abs<=e):x.abs<=y.abs+e:=by have:=aL (x-y) y;rw[show x-y+y=x by grind]at this;grind
theorem xO{hb tb nb:Nat}{p q r s u v W M K m1 T m2 n:Rat}(hr:r≠0)(hW:r.abs=W)(hs:s.abs<=W)(hu:u.abs<=M)(hv:v.abs<=M)(hp:p=u*r-v*s)(hq:q=u*s+v*r)(M1:(2:Rat)^(-300:Int)<=M)(M2:M<=(2:Rat)^(300:Int))(hK:(K-s/r).abs<=eps)(h1:(m1-s*K).abs<=eps*(2*W))(hT:(T-(r+m1)).abs<=eps*(3*W))(h2:(m2-q*K).abs<=eps*(3*(M*W)))(hn:(n-(p+m2)).abs<=eps*(5*(M*W)))(it:Is tb T)(inn:Is nb n):
  ∃w U,fbF .quo nb tb=some w/\Is w U/\(U-u).abs<=32*(M*eps):=by
 have hM0:0<M:=by have:=bG (-300);grind
 obtain⟨_,hT0⟩:=bN3 hr hW hs hK h1 hT;have z:(n/T-n/T).abs<=eps*(2*M):=by rw[Rat.sub_self,fO];exact bU (bN bI) (by grind)
 obtain⟨_,b1,b2⟩:=bVk hr hW hs (bN hM0) hu hv hp hq hK h1 hT h2 hn hT0 z;have hq':(n/T).abs<=2*M:=tQ hT0 b2;obtain⟨w,U,e1,i1,q1⟩:=tU inn it hT0 (by have g1:=cY (show(301:Int)<=1021 by decide);have g2:=fA 301;rw[show(301-1:Int)=300 by decide]at g2;have g3:=fA 1022;rw[show(1022-1:Int)=1021 by decide]at g3;have:=bG 1021;grind);have hB:(2:Rat)^(-1000:Int)<=2*M:=by have:=cY (show(-1000:Int)<=-300 by decide);grind
 have:=q1.le hq' hB;exact⟨w,U,e1,i1,(bVk hr hW hs (bN hM0) hu hv hp hq hK h1 hT h2 hn hT0 this).1⟩
theorem aLs{a b c d:Nat}{p q r s u v W M:Rat}(ip:Is a p)(iq:Is b q)(ir:Is c r)(is_:Is d s)(hr:r.abs<=W)(hs:s.abs<=W)(hW:W=r.abs\/W=s.abs)(W1:(2:Rat)^(-300:Int)<=W)(W2:W<=(2:Rat)^(300:Int))(hu:u.abs<=M)(hv:v.abs<=M)(M1:(2:Rat)^(-300:Int)<=M)(M2:M<=(2:Rat)^(300:Int))(hp:p=u*r-v*s)(hq:q=u*s+v*r):
  ∃w1 w2 U V,Is w1 U/\Is w2 V/\(U-u).abs<=32*(M*eps)/\(V-v).abs<=32*(M*eps)/\∀(R:Type)(k:KNN R),rN R a b c d k=k w1 w2:=by
 have he:=bI;have he2:=aB7;have hW0:0<W:=by have:=bG (-300);grind
 have hM0:0<M:=by have:=bG (-300);grind
 have hMW0:=Rat.mul_pos hM0 hW0;have hMWlo:(2:Rat)^(-600:Int)<=M*W:=by have g1:=dI W1 (bN hM0);have g2:=cG M1 (bN (bG (-300)));rw[<-bO,show(-300+-300:Int)=-600 by decide]at g2;grind
 have hMWhi:M*W<=(2:Rat)^(600:Int):=by have g1:=dI W2 (bN hM0);have g2:=cG M2 (bN (bG 300));rw[<-bO,show(300+300:Int)=600 by decide]at g2;grind
 have p600:=cY (show(-1000:Int)<=-600 by decide);have p300:=cY (show(-1000:Int)<=-300 by decide);have big:∀{x:Rat},x.abs<=10*(2:Rat)^(600:Int)->x.abs<(2:Rat)^(1023:Int):=λ{x} h=>by
  have g1:=cY (show(604:Int)<=1022 by decide);have g2:(2:Rat)^(604:Int)=16*(2:Rat)^(600:Int):=by rw[show(604:Int)=((4:Nat):Int)+600 by decide,bO,cN];rfl
  have g3:=fA 1023;rw[show(1023-1:Int)=1022 by decide]at g3;have:=bG 600;have:=bG 1022;grind
 have p300b:W<=(2:Rat)^(600:Int):=cR W2 (cY (by decide));have pa:p.abs<=2*(M*W):=by have g1:=jY hu hr;have g2:=jY hv hs;have g3:=aL (u*r) (-(v*s));rw[abs_neg,show u*r+-(v*s)=p by grind]at g3;grind
 have qa:q.abs<=2*(M*W):=by have g1:=jY hu hs;have g2:=jY hv hr;have g3:=aL (u*s) (v*r);rw[<-hq]at g3;grind
 have small1:(1:Rat)<(2:Rat)^(1022:Int):=by have g1:=cY (show(1:Int)<=1022 by decide);rw[aS7]at g1;grind
 have hdef:∀(R:Type)(k:KNN R),rN R a b c d k=aW (geF (wV c) (wV d)) λt=>match t with
  |true=>aM (fbF .quo d c) λh=>aM (fbF .mul d h) λsh=>aM (fbF .add c sh) λt=>
    aM (fbF .mul b h) λqh=>aM (fbF .add a qh) λn1=>aM (fbF .quo n1 t) λre=>
    aM (fbF .mul a h) λph=>aM (fbF .sub b ph) λn2=>aM (fbF .quo n2 t) λim=>k re im
  |false=>aM (fbF .quo c d) λh=>aM (fbF .mul c h) λrh=>aM (fbF .add rh d) λt=>
    aM (fbF .mul a h) λph=>aM (fbF .add ph b) λn1=>aM (fbF .quo n1 t) λre=>
    aM (fbF .mul b h) λqh=>aM (fbF .sub qh a) λn2=>aM (fbF .quo n2 t) λim=>k re im:=λR k=>rfl
 have prod:∀{w h:Nat}{x K:Rat}{B:Rat},Is w x->Is h K->K.abs<=1001/1000->x.abs<=B->(2:Rat)^(-600:Int)<=B->B<=2*(2:Rat)^(600:Int)->
   ∃o m,fbF .mul w h=some o/\Is o m/\(m-x*K).abs<=eps*(3/2*B)/\m.abs<=101/100*B:=λ{w h x K B} i1 i2 hK hx hB hB2=>by
  have g1:=jY hx hK;have hB0:0<B:=by have:=bG (-600);grind
  obtain⟨o,m,e1,e2,e3⟩:=kH i1 i2 (big (by grind));have g2:=e3.le (B:=3/2*B) (by grind) (by grind);have g3:=dI he2 (show(0:Rat)<=3/2*B by grind);have g4:=aH9 g2;exact⟨o,m,e1,e2,g2,by grind⟩
 by_cases hc:s.abs<=r.abs
 ·have hWr:W=r.abs:=by rcases hW with h|h<;>grind
  have hr0:r≠0:=by rintro rfl;rw[fO]at hWr;grind
  have hk1:(s/r).abs<=1:=tQ hr0 (by grind);obtain⟨h,K,e1,i1,q1⟩:=tU is_ ir hr0 (by grind);have hK:=q1.le hk1 (by have:=cY (show(-1000:Int)<=0 by decide);rwa[Rat.zpow_zero]at this);rw[Rat.mul_one]at hK;have hKa:K.abs<=1001/1000:=by have:=aH9 hK;grind
  obtain⟨sh,m1,e2,i2,q2,b2⟩:=prod is_ i1 hKa hs (by have:=cY (show(-600:Int)<=-300 by decide);grind) (by have:=bG 600;grind);have hrm:(r+m1).abs<=3*W:=by have:=aL r m1;grind
  obtain⟨t,T,e3,i3,q3⟩:=mJ ir i2 (big (by grind));have hT:=q3.le hrm (by grind);obtain⟨qh,m2,e4,i4,q4,b4⟩:=prod iq i1 hKa qa (by grind) (by grind);have hpm:(p+m2).abs<=5*(M*W):=by have:=aL p m2;grind
  obtain⟨n1,N1,e5,i5,q5⟩:=mJ ip i4 (big (by grind));have hn1:=q5.le hpm (by grind);have epW:=bU (bN he) (bN hW0);have epMW:=bU (bN he) (bN hMW0);obtain⟨w1,U,e6,i6,g6⟩:=xO (hb:=h) hr0 hWr.symm hs hu hv hp hq M1 M2 hK (by grind) hT (by grind) hn1 i3 i5;obtain⟨ph,m3,e7,i7,q7,b7⟩:=prod ip i1 hKa pa (by grind) (by grind);have hqm:(q-m3).abs<=5*(M*W):=by have:=aL q (-m3);rw[abs_neg,show q+-m3=q-m3 by grind]at this;grind
  obtain⟨n2,N2,e8,i8,q8⟩:=qD iq i7 (big (by grind));have hn2:=q8.le hqm (by grind);obtain⟨w2,V,e9,i9,g9⟩:=xO (hb:=h) (p:=q) (q:=-p) (u:=v) (v:=-u) (m2:=-m3) hr0 hWr.symm hs hv (by rw[abs_neg];exact hu) (by rw[hq];grind) (by rw[hp];grind) M1 M2 hK (by grind) hT
   (by rw[show -m3 - -p*K=-(m3-p*K) by grind,abs_neg];grind) (by rw[show q+-m3=q-m3 by grind];exact hn2) i3 i8
  refine⟨w1,w2,U,V,i6,i9,g6,g9,λR k=>?_⟩;rw[hdef,aJ,tB (kW ir) (kW is_)];simp only[hc,decide_true];rw[aK e1,aK e2,aK e3,aK e4,aK e5,aK e6,aK e7,aK e8,aK e9]
 ·have hWs:W=s.abs:=by rcases hW with h|h<;>grind
  have hs0:s≠0:=by rintro rfl;rw[fO]at hWs;grind
  have hk1:(r/s).abs<=1:=tQ hs0 (by grind);obtain⟨h,K,e1,i1,q1⟩:=tU ir is_ hs0 (by grind);have hK:=q1.le hk1 (by have:=cY (show(-1000:Int)<=0 by decide);rwa[Rat.zpow_zero]at this);rw[Rat.mul_one]at hK;have hKa:K.abs<=1001/1000:=by have:=aH9 hK;grind
  obtain⟨rh,m1,e2,i2,q2,b2⟩:=prod ir i1 hKa hr (by have:=cY (show(-600:Int)<=-300 by decide);grind) (by have:=bG 600;grind);have hrm:(m1+s).abs<=3*W:=by have:=aL m1 s;grind
  obtain⟨t,T,e3,i3,q3⟩:=mJ i2 is_ (big (by grind));have hT:=q3.le hrm (by grind);obtain⟨ph,m2,e4,i4,q4,b4⟩:=prod ip i1 hKa pa (by grind) (by grind);have hpm:(m2+q).abs<=5*(M*W):=by have:=aL m2 q;grind
  obtain⟨n1,N1,e5,i5,q5⟩:=mJ i4 iq (big (by grind));have hn1:=q5.le hpm (by grind);have epW:=bU (bN he) (bN hW0);have epMW:=bU (bN he) (bN hMW0);have hK':(-K - -r/s).abs<=eps:=by
   have:-K - -r/s=-(K-r/s):=by
    have g1:-r/s*s=-r:=Rat.div_mul_cancel hs0;have g2:r/s*s=r:=Rat.div_mul_cancel hs0;have g3:(-r/s+r/s)*s=0:=by grind
    rcases Rat.mul_eq_zero.1 g3 with h|h;· grind
    ·exact absurd h hs0
   rw[this,abs_neg];exact hK
  have h1':(m1 - -r*-K).abs<=eps*(2*W):=by rw[show m1 - -r*-K=m1-r*K by grind];grind
  have hT':(T-(s+m1)).abs<=eps*(3*W):=by rw[show s+m1=m1+s by grind];exact hT
  obtain⟨w1,U,e6,i6,g6⟩:=xO (hb:=h) (p:=q) (q:=-p) (r:=s) (s:=-r) (u:=u) (v:=v) (K:=-K) hs0 hWs.symm (by rw[abs_neg];exact hr) hu hv (by rw[hq];grind) (by rw[hp];grind) M1 M2 hK' h1' hT'
   (by rw[show m2 - -p*-K=m2-p*K by grind];grind) (by rw[show q+m2=m2+q by grind];exact hn1) i3 i5
  obtain⟨qh,m3,e7,i7,q7,b7⟩:=prod iq i1 hKa qa (by grind) (by grind);have hqm:(m3-p).abs<=5*(M*W):=by have:=aL m3 (-p);rw[abs_neg,show m3+-p=m3-p by grind]at this;grind
  obtain⟨n2,N2,e8,i8,q8⟩:=qD i7 ip (big (by grind));have hn2:=q8.le hqm (by grind);obtain⟨w2,V,e9,i9,g9⟩:=xO (hb:=h) (p:=-p) (q:=-q) (r:=s) (s:=-r) (u:=v) (v:=-u) (K:=-K) (m2:=m3) hs0 hWs.symm (by rw[abs_neg];exact hr) hv (by rw[abs_neg];exact hu) (by rw[hp];grind) (by rw[hq];grind) M1 M2 hK' h1' hT'
   (by rw[show m3 - -q*-K=m3-q*K by grind];grind) (by rw[show -p+m3=m3-p by grind];exact hn2) i3 i8
  refine⟨w1,w2,U,V,i6,i9,g6,g9,λR k=>?_⟩;rw[hdef,aJ,tB (kW ir) (kW is_)];simp only[hc,decide_false];rw[aK e1,aK e2,aK e3,aK e4,aK e5,aK e6,aK e7,aK e8,aK e9]
theorem bR:eps*1000000000<=1:=by
 have h7:(2:Rat)^(-30:Int)*(2:Rat)^(30:Int)=1:=by rw[<-bO,show(-30+30:Int)=0 by decide,Rat.zpow_zero]
 have h8:(2:Rat)^(30:Int)=1073741824:=by rw[show(30:Int)=((30:Nat):Int) by rfl,cN];rfl
 rw[h8]at h7;unfold eps;grind
structure Cq where
 x:Rat
 y:Rat
namespace Cq
end Cq
open Cq
open Ieee Cq
theorem aEk:Is 4611686018427387904 2:=by
 have:=oQ (s:=false) (E:=1024) (f:=0) (by decide) (by decide) (by decide);have e:dv false (2^52+0) (((1024:Nat):Int)-1075)=2:=by unfold dv sg;rw[if_neg (by decide),Rat.one_mul,Nat.add_zero,<-cN,<-bO];show(2:Rat)^(1:Int)=2;exact aS7
 rw[e]at this;exact this
theorem aY8{w:Nat}{x y:Rat}(h:Is w x)(g:Is w y):x=y:=by obtain⟨_,s,m,i,h1,rfl⟩:=h;obtain⟨_,t,n,j,h2,rfl⟩:=g;rw[h1]at h2;cases h2;rfl
theorem is0:Is 0 0:=⟨by decide,false,0,-1074,by decide,yH _ _⟩
theorem aN2{x:Nat}{R:Type}(k:KNO R):kO R x k=k (wV x):=rfl
theorem aEj:Is 4602678819172646912 (1/2):=by
 have:=oQ (s:=false) (E:=1022) (f:=0) (by decide) (by decide) (by decide);have e:dv false (2^52+0) (((1022:Nat):Int)-1075)=1/2:=by unfold dv sg;rw[if_neg (by decide),Rat.one_mul,Nat.add_zero,<-cN,<-bO];show(2:Rat)^(-1:Int)=1/2;have:=fA 0;rw[Rat.zpow_zero,show(0-1:Int)=-1 by decide]at this;grind
 rw[e]at this;exact this
open Go.Proofs
theorem cCl(R:Type) a b c d (k:KVO R):fC (cx P9 []) 10 35 [.complex .f64 a b,.complex .f64 c d] k=gJ R a b c d λx y=>k (.complex .f64 x y):=by kernel_rfl
theorem cB7(R:Type) a b c d (k:KVO R):fC (cx P9 []) 10 43 [.complex .f64 a b,.complex .f64 c d] k=dV R a b c d λx y=>k (.complex .f64 x y):=by kernel_rfl
theorem cBw(R:Type) a b c d (k:KVO R):fC (cx P9 []) 10 26 [.complex .f64 a b,.complex .f64 c d] k=jJ R a b c d λx y=>k (.complex .f64 x y):=by kernel_rfl
theorem cB8(R:Type) a b (k:KVO R):fC (cx P9 []) 10 45 [.complex .f64 a b] k=sU R a b λx y=>k (.complex .f64 x y):=by kernel_rfl
theorem cBv(R:Type) a (k:KVO R):fC (cx P9 []) 10 21 [.float .f64 a] k=kO R a λt=>k (.float .f64 t):=by kernel_rfl
theorem bG4(ab:KFF)(R:Type) a b (k:KVO R):fC (cx P9 [(21,sFF ab)]) 10 113 [.float .f64 a,.float .f64 b] k=aKu ab R a b λt=>k (.bool t):=by kernel_rfl
theorem bGv(wi:aA1)(R:Type) a b c (k:KVO R):fC (cx P9 [(113,bNv wi)]) 10 92 [.complex .f64 a b,.float .f64 c] k=yD wi R a b c λt=>k (.bool t):=by kernel_rfl
def bVf:Sum:=λR args k=>match args with | []=>k (.bool true)|_=>none
theorem aO:Tryz.prog.follows .mixedOrders=true:=by kernel_rfl
theorem h21:Has P9 35:=⟨Tryz.f35,_,Tryz.func35,by kernel_rfl,rfl⟩
theorem h22:Has P9 43:=⟨Tryz.f43,_,Tryz.func43,by kernel_rfl,rfl⟩
theorem h53:Has P9 21:=⟨Tryz.f21,_,Tryz.func21,by kernel_rfl,rfl⟩
theorem h80:Has P9 113:=⟨Tryz.f113,_,Tryz.func113,by kernel_rfl,rfl⟩
theorem h84:Has P9 26:=⟨Tryz.f26,_,Tryz.func26,by kernel_rfl,rfl⟩
theorem h86:Has P9 45:=⟨Tryz.f45,_,Tryz.func45,by kernel_rfl,rfl⟩
theorem bZd:Has P9 92:=⟨Tryz.f92,_,Tryz.func92,by kernel_rfl,rfl⟩
section shapes
variable{P:Q9}{l:List (Nat×Sum)}{n:Nat}{f:F9}
end shapes
theorem k21:cH P9 35 (jH gJ):=aJt aO .nil cCl
theorem k22:cH P9 43 (jH dV):=aJt aO .nil cB7
theorem k84:cH P9 26 (jH jJ):=aJt aO .nil cBw
theorem k86:cH P9 45 (sCC sU):=aE9 aO .nil cB8
theorem k53:cH P9 21 (sFF kO):=aMl aO .nil cBv
theorem k80:cH P9 113 (bNv cJ):=bNd aO (.cons k53 h53 .nil) (bG4 _)
theorem bIb:cH P9 92 (aP3 jQ):=bNc aO (.cons k80 h80 .nil) (bGv _)
theorem bPx(ab:KFF)(R:Type) a (k:KVO R):fC (cx P9 [(21,sFF ab)]) 20 73 [.float .f64 a,.int .i64 0] k=aY6 ab R a λt=>k (.bool t):=by kernel_rfl
theorem bPy(R:Type) a (k:KVO R):fC (cx P9 []) 20 75 [.float .f64 a] k=xY R a λt=>k (.bool t):=by kernel_rfl
theorem bWx(ab:KFF)(R:Type) a (k:KVO R):fC (cx P9 [(21,sFF ab)]) 20 125 [.float .f64 a] k=bUa ab R a λx e=>k (.tuple ⟨[.float .f64 x,.int .i64 e]⟩):=by kernel_rfl
theorem bPw(fi:Fi)(inf nan:KFB)(nm:aH6)(R:Type) a (k:KVO R):fC (cxf fi P9 [(73,bQp inf),(75,sFB nan),(125,aGr nm)] []) 30 117 [.float .f64 a] k=aRv fi inf nan nm R a λx e=>k (.tuple ⟨[.float .f64 x,.int .i64 e]⟩):=by kernel_rfl
theorem bWr(R:Type) a b (k:KVO R):fC (cx P9 []) 30 126 [.float .f64 a,.float .f64 b] k=aIp R a b λx=>k (.float .f64 x):=by kernel_rfl
theorem bPz(fi:Fi)(cp:vS)(inf nan:KFB)(nm:aH6)(R:Type) a n (k:KVO R):fC (cxf fi P9 [(73,bQp inf),(75,sFB nan),(125,aGr nm),(126,aGc cp),(74,aAs)] []) 30 119 [.float .f64 a,.int .i64 n] k=aSi fi cp inf nan nm R a n λx=>k (.float .f64 x):=by kernel_rfl
theorem bPs(fr:aH6)(R:Type) a (k:KVO R):fC (cx P9 [(117,aGr fr)]) 30 94 [.float .f64 a] k=fr R a λx e=>k (.tuple ⟨[.float .f64 x,.int .i64 e]⟩):=by kernel_rfl
theorem bPt(ld:aKy)(R:Type) a n (k:KVO R):fC (cx P9 [(119,aP4 ld)]) 30 95 [.float .f64 a,.int .i64 n] k=ld R a n λx=>k (.float .f64 x):=by kernel_rfl
theorem bPu(fr:aH6)(R:Type) a (k:KVO R):fC (cx P9 [(94,aGr fr)]) 30 111 [.float .f64 a] k=fr R a λx e=>k (.tuple ⟨[.float .f64 x,.int .i64 e]⟩):=by kernel_rfl
theorem bP2(ld:aKy)(R:Type) a n (k:KVO R):fC (cx P9 [(95,aP4 ld)]) 30 79 [.float .f64 a,.int .i64 n] k=bI9 ld R a n λx=>k (.float .f64 x):=by kernel_rfl
theorem aV5(ab:KFF)(R:Type) a b (k:KVO R):fC (cx P9 [(21,sFF ab)]) 30 77 [.complex .f64 a b] k=aL8 ab R a b λx=>k (.float .f64 x):=by kernel_rfl
theorem bG0(gr:KCF)(pa:aH6)(sc:aKy)(R:Type) a b (k:KVO R):fC (cx P9 [(77,sCF gr),(111,aGr pa),(79,aP4 sc)]) 30 78 [.complex .f64 a b] k=aKj gr pa sc R a b λx y e=>k (.tuple ⟨[.complex .f64 x y,.int .i64 e]⟩):=by kernel_rfl
theorem bG2(R:Type) a b (k:KVO R):fC (cx P9 []) 30 81 [.complex .f64 a b] k=wR R a b λx=>k (.float .f64 x):=by kernel_rfl
theorem bGx(inf nan:KFB)(gr:KCF)(sd:bQa)(sq:KCF)(rt:KFF)(sc:aKy)(R:Type) a b (k:KVO R):fC (cx P9 [(73,bQp inf),(75,sFB nan),(77,sCF gr),(78,bVc sd),(81,sCF sq),(80,sFF rt),(79,aP4 sc),(74,aAs),(76,aAs)]) 30 29 [.complex .f64 a b] k=aJf inf nan gr sd sq rt sc R a b λx=>k (.float .f64 x):=by kernel_rfl
theorem bGw(ab:KFF)(R:Type) a (k:KVO R):fC (cx P9 [(21,sFF ab)]) 30 93 [.float .f64 a] k=aYj ab R a λt=>k (.bool t):=by kernel_rfl
theorem bGu(fi:KFB)(R:Type) a b (k:KVO R):fC (cx P9 [(93,sFB fi)]) 30 91 [.complex .f64 a b] k=aNr fi R a b λt=>k (.bool t):=by kernel_rfl
theorem cB1(ab:KFF)(R:Type) a b c d (k:KVO R):fC (cx P9 [(21,sFF ab)]) 30 89 [.complex .f64 a b,.complex .f64 c d] k=bXf ab R a b c d λx y=>k (.complex .f64 x y):=by kernel_rfl
theorem cH.weak{P:Q9}{f:F9}{s1 s2:Sum}(h:cH P f s1)(H:∀(R:Type)(args:List V9)(k:KVO R)(r:R),s2 R args k=some r->∃k',s1 R args k'=some r/\∀v,k' v=some r->k v=some r):cH P f s2:=by intro R args k r hr;obtain⟨k',h1,h2⟩:=H R args k r hr;obtain⟨h3,v,h4,h5,h6⟩:=h R args k' r h1;exact⟨h3,v,h2 v h4,h5,h6⟩
theorem aMm{P:Q9}{f:F9}:cH P f aAs:=λR args k r hr=>by cases hr
theorem bRw{P:Q9}{l es:List (Nat×Sum)}(h:mE P l)(he:∀f g,tab es f=some g->xS P f g):(cxf aG P l es).Ok where
 fair:=aI
 sums:=λf g hg=>aCq h f g hg
 exts:=he
 meths:=λt s f hf=>by cases hf
 nan1:=λf hf=>by cases hf
 hs:=λf args H v h=>by cases h
theorem rR{P:Q9}{l es:List (Nat×Sum)}(hm:P.follows .mixedOrders=true)(h:mE P l)(he:∀f g,tab es f=some g->xS P f g){n:Nat}{f:F9}{g:Sum}(hg:∀(R:Type)(args:List V9)(k:KVO R)(r:R),g R args k=some r->kZ 0 args=true/\fC (cxf aG P l es) n f args k=some r):cH P f g:=by intro R args k r h1;obtain⟨h2,h3⟩:=hg R args k r h1;exact⟨h2,cD (bRw h he) hm h3 h2⟩
section shapes
variable{P:Q9}{l:List (Nat×Sum)}{n:Nat}{f:F9}
theorem bNe{g:KFB}(hm:P.follows .mixedOrders=true)(h:mE P l)(hg:∀(R:Type) a (k:KVO R),fC (cx P l) n f [.float .f64 a,.int .i64 0] k=g R a λt=>k (.bool t)):cH P f (bQp g):=
 dL hm h (n:=n) λR args k r hr=>by
  unfold bQp at hr;split at hr
  ·rename_i a s;cases hi:(s==0) with
   |false=>rw[hi]at hr;cases hr
   |true=>
    rw[hi]at hr;have:s=0:=by simpa using hi
    subst this;exact⟨rfl,by rw[hg];simpa only[aJ,T7] using hr⟩
  ·cases hr
theorem aFa{g:aH6}(hm:P.follows .mixedOrders=true)(h:mE P l)(hg:∀(R:Type) a (k:KVO R),fC (cx P l) n f [.float .f64 a] k=g R a λx e=>k (.tuple ⟨[.float .f64 x,.int .i64 e]⟩)):cH P f (aGr g):=
 dL hm h (n:=n) λR args k r hr=>by
  unfold aGr at hr;split at hr;· exact⟨rfl,by rw[hg];exact hr⟩
  ·cases hr
theorem aPq{g:aKy}(hm:P.follows .mixedOrders=true)(h:mE P l)(hg:∀(R:Type) a e (k:KVO R),fC (cx P l) n f [.float .f64 a,.int .i64 e] k=g R a e λx=>k (.float .f64 x)):cH P f (aP4 g):=
 dL hm h (n:=n) λR args k r hr=>by
  unfold aP4 at hr;split at hr;· exact⟨rfl,by rw[hg];exact hr⟩
  ·cases hr
theorem aPp{g:vS}(hm:P.follows .mixedOrders=true)(h:mE P l)(hg:∀(R:Type) a b (k:KVO R),fC (cx P l) n f [.float .f64 a,.float .f64 b] k=g R a b λx=>k (.float .f64 x)):cH P f (aGc g):=
 dL hm h (n:=n) λR args k r hr=>by
  unfold aGc at hr;split at hr;· exact⟨rfl,by rw[hg];exact hr⟩
  ·cases hr
theorem aZ4{g:KCF}(hm:P.follows .mixedOrders=true)(h:mE P l)(hg:∀(R:Type) a b (k:KVO R),fC (cx P l) n f [.complex .f64 a b] k=g R a b λx=>k (.float .f64 x)):cH P f (sCF g):=
 dL hm h (n:=n) λR args k r hr=>by
  unfold sCF at hr;split at hr;· exact⟨rfl,by rw[hg];exact hr⟩
  ·cases hr
theorem bNb{g:bQa}(hm:P.follows .mixedOrders=true)(h:mE P l)(hg:∀(R:Type) a b (k:KVO R),fC (cx P l) n f [.complex .f64 a b] k=g R a b λx y e=>k (.tuple ⟨[.complex .f64 x y,.int .i64 e]⟩)):cH P f (bVc g):=
 dL hm h (n:=n) λR args k r hr=>by
  unfold bVc at hr;split at hr;· exact⟨rfl,by rw[hg];exact hr⟩
  ·cases hr
end shapes
theorem bD5:Has P9 73:=⟨Tryz.f73,_,Tryz.func73,by kernel_rfl,rfl⟩
theorem bL4:Has P9 75:=⟨Tryz.f75,_,Tryz.func75,by kernel_rfl,rfl⟩
theorem bZg:Has P9 125:=⟨Tryz.f125,_,Tryz.func125,by kernel_rfl,rfl⟩
theorem cDi:Has P9 117:=⟨Tryz.f117,_,Tryz.func117,by kernel_rfl,rfl⟩
theorem bSs:Has P9 94:=⟨Tryz.f94,_,Tryz.func94,by kernel_rfl,rfl⟩
theorem bZe:Has P9 111:=⟨Tryz.f111,_,Tryz.func111,by kernel_rfl,rfl⟩
theorem h77:Has P9 126:=⟨Tryz.f126,_,Tryz.func126,by kernel_rfl,rfl⟩
theorem cDf:Has P9 119:=⟨Tryz.f119,_,Tryz.func119,by kernel_rfl,rfl⟩
theorem bSr:Has P9 95:=⟨Tryz.f95,_,Tryz.func95,by kernel_rfl,rfl⟩
theorem bXk:Has P9 79:=⟨Tryz.f79,_,Tryz.func79,by kernel_rfl,rfl⟩
theorem bZb:Has P9 77:=⟨Tryz.f77,_,Tryz.func77,by kernel_rfl,rfl⟩
theorem cC2:Has P9 78:=⟨Tryz.f78,_,Tryz.func78,by kernel_rfl,rfl⟩
theorem cC4:Has P9 81:=⟨Tryz.f81,_,Tryz.func81,by kernel_rfl,rfl⟩
theorem cC3:Has P9 80:=⟨Tryz.f80,_,Tryz.func80,by kernel_rfl,rfl⟩
theorem h38:Has P9 29:=⟨Tryz.f29,_,Tryz.func29,by kernel_rfl,rfl⟩
theorem bXl:Has P9 93:=⟨Tryz.f93,_,Tryz.func93,by kernel_rfl,rfl⟩
theorem h93:Has P9 91:=⟨Tryz.f91,_,Tryz.func91,by kernel_rfl,rfl⟩
theorem aR3:Has P9 89:=⟨Tryz.f89,_,Tryz.func89,by kernel_rfl,rfl⟩
theorem bSp:Has P9 74:=⟨Tryz.f74,_,Tryz.func74,by kernel_rfl,rfl⟩
theorem h55:Has P9 76:=⟨Tryz.f76,_,Tryz.func76,by kernel_rfl,rfl⟩
theorem bZq:cH P9 73 (bQp xX):=bNe aO (.cons k53 h53 .nil) (bPx _)
theorem bQm:cH P9 75 (sFB xY):=aS1 aO .nil bPy
theorem bZz:cH P9 125 (aGr aVl):=aFa aO (.cons k53 h53 .nil) (bWx _)
theorem cD9:cH P9 117 (aGr mR):=aFa aO (.cons bZq bD5 (.cons bQm bL4 (.cons bZz bZg .nil))) (bPw aG _ _ _)
theorem bTf:cH P9 94 (aGr mR):=aFa aO (.cons cD9 cDi .nil) (bPs _)
theorem bZu:cH P9 111 (aGr mR):=aFa aO (.cons bTf bSs .nil) (bPu _)
theorem k77:cH P9 126 (aGc aIp):=aPp aO .nil bWr
theorem cDw:cH P9 74 aAs:=aMm
theorem k55:cH P9 76 aAs:=aMm
theorem cD7:cH P9 119 (aP4 pB):=aPq aO (.cons bZq bD5 (.cons bQm bL4 (.cons bZz bZg (.cons k77 h77 (.cons cDw bSp .nil))))) (bPz aG _ _ _ _)
theorem bXu:cH P9 95 (aP4 pB):=aPq aO (.cons cD7 cDf .nil) (bPt _)
theorem bXr:cH P9 79 (aP4 wP):=aPq aO (.cons bXu bSr .nil) (bP2 _)
theorem bZr:cH P9 77 (sCF sA):=aZ4 aO (.cons k53 h53 .nil) (aV5 _)
theorem cDx:cH P9 78 (bVc yU):=bNb aO (.cons bZr bZb (.cons bZu bZe (.cons bXr bXk .nil))) (bG0 _ _ _)
theorem cDz:cH P9 81 (sCF wR):=aZ4 aO .nil bG2
theorem bW1(rt:KFF)(R:Type) a (k:KVO R):fC (cxf aG P9 [] [(112,sFF rt)]) 20 80 [.float .f64 a] k=rt R a λx=>k (.float .f64 x):=by kernel_rfl
theorem bNt(a r:Nat)(h:Ieee.double.sqrt a=some r)(w:World):(callFunc 112 #[.float .f64 a]).run P9 w=.ok (.value (.float .f64 r)) w:=by
 have h1:Tryz.prog.funcs[112]?=some Tryz.f112:=Tryz.func112;have h2 : (Tryz.f112.name == "runtime.NumGoroutine") = false := by kernel_rfl
 have h3:Tryz.f112.body.isNone=true:=by kernel_rfl
 have h4:Extern.find Tryz.f112=some Extern.MathSqrt.sqrt:=by kernel_rfl
 have h5:(Extern.findNext Tryz.f112).isNone=true:=by kernel_rfl
 have h5':Extern.findNext Tryz.f112=none:=by simpa using h5
 have h6:Extern.MathSqrt.sqrt #[.float .f64 a]=pure (.float .f64 r):=by show(match Ieee.double.sqrt a with|some r=>_|none=>_)=_;rw[h]
 unfold callFunc;have h2' : Tryz.f112.name ≠ "runtime.NumGoroutine" := by simpa using h2
 have h3':Tryz.f112.body=none:=by simpa using h3
 simp[Sem.run_bind,h1,h2',h3',h4,h5',h6]
theorem cE2:xS P9 112 (sFF aGs):=by
 intro R args k r hr;unfold sFF at hr;split at hr
 ·rename_i a;unfold aGs at hr;cases hs:Ieee.double.sqrt a with
  |none=>rw[hs]at hr;cases hr
  |some x=>rw[aK hs]at hr;exact⟨rfl,_,hr,rfl,λw=>bNt a x hs w⟩
 ·cases hr
theorem cDy:cH P9 80 (sFF aGs):=rR (l:=[]) (es:=[(112,sFF aGs)]) (n:=20) aO .nil
 (λf g h=>by
  unfold tab at h;cases hb:N9 112 f with
  |true=>rw[hb]at h;cases h;rw[<-gO hb];exact cE2
  |false=>rw[hb]at h;cases h)
 λR args k r hr=>by
  unfold sFF at hr;split at hr;· exact⟨rfl,by rw[bW1];exact hr⟩
  ·cases hr
theorem k38:cH P9 29 (sCF cQ):=
 aZ4 aO (.cons bZq bD5 (.cons bQm bL4 (.cons bZr bZb (.cons cDx cC2 (.cons cDz cC4 (.cons cDy cC3 (.cons bXr bXk (.cons cDw bSp (.cons k55 h55 .nil))))))))) (bGx _ _ _ _ _ _ _)
theorem bXs:cH P9 93 (sFB dG):=aS1 aO (.cons k53 h53 .nil) (bGw _)
theorem k93:cH P9 91 (sCB aP):=aZ3 aO (.cons bXs bXl .nil) (bGu _)
theorem aSf:cH P9 89 (jH rN):=aJt aO (.cons k53 h53 .nil) (cB1 _)
theorem bWu(ab:KFF)(R:Type) a (k:KVO R):fC (cx P9 [(21,sFF ab)]) 20 73 [.float .f64 a,.int .i64 0] k=aY6 ab R a λt=>k (.bool t):=by kernel_rfl
theorem bWw(ab:KFF)(R:Type) a (k:KVO R):fC (cx P9 [(21,sFF ab)]) 20 73 [.float .f64 a,.int .i64 1] k=aBk R a λt=>k (.bool t):=by kernel_rfl
theorem bWv(ab:KFF)(R:Type) a (k:KVO R):fC (cx P9 [(21,sFF ab)]) 20 73 [.float .f64 a,.int .i64 (-1)] k=aJd R a λt=>k (.bool t):=by kernel_rfl
theorem cBu(R:Type)(k:KVO R):fC (cx P9 []) 40 74 [.int .i64 1] k=k (.float .f64 9218868437227405312):=by kernel_rfl
theorem cCd(R:Type) a b c (k:KVO R):fC (cx P9 []) 20 15 [.complex .f64 a b,.float .f64 c] k=eQ R a b c λx y=>k (.complex .f64 x y):=by kernel_rfl
def sBk(t:Bool)(kind:Int)(L:List Int)(g:KMZ):Sum:=λR args k=>match args with
 |[v,.complex .f64 a b,.bool u]=>cGc v λi m=>bif u==t&&i==kind then g R m a b (cBt L k) (zOk k) else none
 |_=>none
section shapes
variable{P:Q9}{l:List (Nat×Sum)}{n:Nat}{f:F9}
theorem aJv{s:Int}{g:KFB}(hm:P.follows .mixedOrders=true)(h:mE P l)(hg:∀(R:Type) a (k:KVO R),fC (cx P l) n f [.float .f64 a,.int .i64 s] k=g R a λt=>k (.bool t)):
  cH P f (λR args k=>match args with
   |[.float .f64 a,.int .i64 u]=>bif u==s then g R a λt=>aW t λt=>k (.bool t) else none
   |_=>none):=
 dL hm h (n:=n) λR args k r hr=>by
  split at hr
  ·rename_i a u;cases hi:(u==s) with
   |false=>rw[hi]at hr;cases hr
   |true=>
    rw[hi]at hr;have:u=s:=by simpa using hi
    subst this;exact⟨rfl,by rw[hg];simpa only[aJ,T7] using hr⟩
  ·cases hr
theorem aZ5{g:mO}(hm:P.follows .mixedOrders=true)(h:mE P l)(hg:∀(R:Type) a b c (k:KVO R),fC (cx P l) n f [.complex .f64 a b,.float .f64 c] k=g R a b c λx y=>k (.complex .f64 x y)):cH P f (tF g):=
 dL hm h (n:=n) λR args k r hr=>by
  unfold tF at hr;split at hr;· exact⟨rfl,by rw[hg];exact hr⟩
  ·cases hr
end shapes
theorem h39:Has P9 15:=⟨Tryz.f15,_,Tryz.func15,by kernel_rfl,rfl⟩
theorem aZg:cH P9 73 (aP7 xX aBk aJd):=by
 intro R args k r hr;unfold aP7 at hr;split at hr
 ·rename_i a s;cases h0:(s==0) with
  |true=>exact aJv aO (.cons k53 h53 .nil) (bWu kO) R _ k r (by rw[h0]at hr;show(bif s==0 then _ else _)=_;rw[h0];exact hr)
  |false=>
   cases h1:(s==1) with
   |true=>exact aJv aO (.cons k53 h53 .nil) (bWw kO) R _ k r (by rw[h0,h1]at hr;show(bif s==1 then _ else _)=_;rw[h1];exact hr)
   |false=>
    cases h2:(s == -1) with
    |true=>exact aJv aO (.cons k53 h53 .nil) (bWv kO) R _ k r (by rw[h0,h1,h2]at hr;show(bif s == -1 then _ else _)=_;rw[h2];exact hr)
    |false=>rw[h0,h1,h2]at hr;cases hr
 ·cases hr
theorem k39:cH P9 15 (tF eQ):=aZ5 aO .nil cCd
theorem bL5:Has P9 70:=⟨Tryz.f70,_,Tryz.func70,by kernel_rfl,rfl⟩
theorem cDj:Has P9 154:=⟨Tryz.f154,_,Tryz.func154,by kernel_rfl,rfl⟩
theorem cDl:Has P9 153:=⟨Tryz.f153,_,Tryz.func153,by kernel_rfl,rfl⟩
theorem cDc:Has P9 151:=⟨Tryz.f151,_,Tryz.func151,by kernel_rfl,rfl⟩
theorem cDg:Has P9 157:=⟨Tryz.f157,_,Tryz.func157,by kernel_rfl,rfl⟩
theorem bZf:Has P9 155:=⟨Tryz.f155,_,Tryz.func155,by kernel_rfl,rfl⟩
theorem cDk:Has P9 156:=⟨Tryz.f156,_,Tryz.func156,by kernel_rfl,rfl⟩
theorem cDb:Has P9 152:=⟨Tryz.f152,_,Tryz.func152,by kernel_rfl,rfl⟩
theorem cC7:Has P9 150:=⟨Tryz.f150,_,Tryz.func150,by kernel_rfl,rfl⟩
theorem bMi:cH P9 70 sPi:=dL aO .nil (n:=60) λR args k r hr=>by
 unfold sPi at hr;split at hr;· exact⟨rfl,by rw[cG9];exact hr⟩
 ·cases hr
theorem bWq(R:Type)(k:KVO R):fC (cx P9 []) 40 74 [.int .i64 (-1)] k=k (.float .f64 18442240474082181120):=by kernel_rfl
theorem aZh:cH P9 74 aM3:=dL aO .nil (n:=40) λR args k r hr=>by
 unfold aM3 at hr;split at hr
 ·rename_i s;cases h1:(s==1) with
  |true=>
   rw[h1]at hr;have:s=1:=by simpa using h1
   subst this;exact⟨rfl,by rw[cBu];exact hr⟩
  |false=>
   cases h2:(s == -1) with
   |true=>
    rw[h1,h2]at hr;have:s=-1:=by simpa using h2
    subst this;exact⟨rfl,by rw[bWq];exact hr⟩
   |false=>rw[h1,h2]at hr;cases hr
 ·cases hr
theorem cEa:cH P9 154 (sFF bDl):=aMl aO (.cons bMi bL5 .nil) bWs
theorem cEc:cH P9 153 (sFF bX3):=aMl aO .nil cB9
theorem cD5:cH P9 151 (sFF bZ9):=aMl aO (.cons aZg bD5 (.cons k55 h55 (.cons aZh bSp (.cons bZu bZe (.cons cEc cDl .nil))))) (cB6 aG _ _ _ _ _)
theorem cD8:cH P9 157 (sFB bN1):=aS1 aO .nil (bW0 aG)
theorem bZy:cH P9 155 (sFB aSn):=aS1 aO (.cons cD8 cDg .nil) (bP0 _)
theorem cEb:cH P9 156 (aGc aQc):=aPp aO (.cons bZy bZf (.cons k53 h53 .nil)) (bG1 _ _)
theorem cD4:cH P9 152 (aGc aK6):=
 aPp aO (.cons k53 h53 (.cons aZg bD5 (.cons bMi bL5 (.cons cEa cDj (.cons bZy bZf (.cons cEb cDk (.cons k55 h55 .nil))))))) (bPv _ _ _ _ _ _ _)
theorem cD1:cH P9 150 (sCC aJ1):=aE9 aO (.cons k38 h38 (.cons cD5 cDc (.cons cD4 cDb .nil))) (bGz _ _ _)
theorem aO9(v : V9) : calm P9 (method (Tryz.prog.types.size + Made.depth) 141 v "eddy/element.speed") = some (149, v) := by kernel_rfl
theorem aPa(v : V9) : calm P9 (method (Tryz.prog.types.size + Made.depth) 143 v "eddy/element.speed") = some (160, v) := by kernel_rfl
theorem aPb(v : V9) : calm P9 (method (Tryz.prog.types.size + Made.depth) 145 v "eddy/element.speed") = some (164, v) := by kernel_rfl
theorem aPc(v : V9) : calm P9 (method (Tryz.prog.types.size + Made.depth) 147 v "eddy/element.speed") = some (171, v) := by kernel_rfl
theorem aPd(v : V9) : calm P9 (method (Tryz.prog.types.size + Made.depth) 148 v "eddy/element.speed") = some (174, v) := by kernel_rfl
theorem aEq(v : V9) : calm P9 (method (Tryz.prog.types.size + Made.depth) 141 v "eddy/element.potential") = some (147, v) := by kernel_rfl
theorem aEr(v : V9) : calm P9 (method (Tryz.prog.types.size + Made.depth) 143 v "eddy/element.potential") = some (158, v) := by kernel_rfl
theorem aEs(v : V9) : calm P9 (method (Tryz.prog.types.size + Made.depth) 145 v "eddy/element.potential") = some (162, v) := by kernel_rfl
theorem aEt(v : V9) : calm P9 (method (Tryz.prog.types.size + Made.depth) 147 v "eddy/element.potential") = some (169, v) := by kernel_rfl
theorem aEu(v : V9) : calm P9 (method (Tryz.prog.types.size + Made.depth) 148 v "eddy/element.potential") = some (172, v) := by kernel_rfl
theorem aO4(v : V9) : calm P9 (method (Tryz.prog.types.size + Made.depth) 141 v "eddy/element.slope") = some (148, v) := by kernel_rfl
theorem aO5(v : V9) : calm P9 (method (Tryz.prog.types.size + Made.depth) 143 v "eddy/element.slope") = some (159, v) := by kernel_rfl
theorem aO6(v : V9) : calm P9 (method (Tryz.prog.types.size + Made.depth) 145 v "eddy/element.slope") = some (163, v) := by kernel_rfl
theorem aO7(v : V9) : calm P9 (method (Tryz.prog.types.size + Made.depth) 147 v "eddy/element.slope") = some (170, v) := by kernel_rfl
theorem aO8(v : V9) : calm P9 (method (Tryz.prog.types.size + Made.depth) 148 v "eddy/element.slope") = some (173, v) := by kernel_rfl
theorem bNl{t f a1 a2 a3 a4 a5 b1 b2 b3 b4 b5:Nat}(h:(bif N9 t a1 then some b1 else bif N9 t a2 then some b2 else bif N9 t a3 then some b3 else bif N9 t a4 then some b4 else bif N9 t a5 then some b5 else none)=some f):
  (t=a1/\f=b1)\/(t=a2/\f=b2)\/(t=a3/\f=b3)\/(t=a4/\f=b4)\/(t=a5/\f=b5):=by
 cases h1:N9 t a1 with
 |true=>rw[h1]at h;exact .inl ⟨gO h1,(Option.some.inj h).symm⟩
 |false=>
  rw[h1]at h;refine .inr ?_;cases h1:N9 t a2 with
  |true=>rw[h1]at h;exact .inl ⟨gO h1,(Option.some.inj h).symm⟩
  |false=>
   rw[h1]at h;refine .inr ?_;cases h1:N9 t a3 with
   |true=>rw[h1]at h;exact .inl ⟨gO h1,(Option.some.inj h).symm⟩
   |false=>
    rw[h1]at h;refine .inr ?_;cases h1:N9 t a4 with
    |true=>rw[h1]at h;exact .inl ⟨gO h1,(Option.some.inj h).symm⟩
    |false=>
     rw[h1]at h;refine .inr ?_;cases h1:N9 t a5 with
     |true=>rw[h1]at h;exact⟨gO h1,(Option.some.inj h).symm⟩
     |false=>rw[h1]at h;cases h
theorem aPg:∀t s f,bEz t s=some f->∀v w,(method (Tryz.prog.types.size+Made.depth) t v s).run P9 w=.ok (f,v) w:=by
 intro t s f h v w;unfold bEz at h;cases h_speed : (s == "eddy/element.speed") with
 |true=>
  rw[h_speed]at h;have e : s = "eddy/element.speed" := by simpa using h_speed
  subst e;rcases bNl h with ⟨rfl,rfl⟩|⟨rfl,rfl⟩|⟨rfl,rfl⟩|⟨rfl,rfl⟩|⟨rfl,rfl⟩;· exact bV (aO9 v) w
  ·exact bV (aPa v) w
  ·exact bV (aPb v) w
  ·exact bV (aPc v) w
  ·exact bV (aPd v) w
 |false=>
  rw[h_speed]at h;simp only[F7]at h;cases h_potential : (s == "eddy/element.potential") with
  |true=>
   rw[h_potential]at h;have e : s = "eddy/element.potential" := by simpa using h_potential
   subst e;rcases bNl h with ⟨rfl,rfl⟩|⟨rfl,rfl⟩|⟨rfl,rfl⟩|⟨rfl,rfl⟩|⟨rfl,rfl⟩;· exact bV (aEq v) w
   ·exact bV (aEr v) w
   ·exact bV (aEs v) w
   ·exact bV (aEt v) w
   ·exact bV (aEu v) w
  |false=>
   rw[h_potential]at h;simp only[F7]at h;cases h_slope : (s == "eddy/element.slope") with
   |true=>
    rw[h_slope]at h;have e : s = "eddy/element.slope" := by simpa using h_slope
    subst e;rcases bNl h with ⟨rfl,rfl⟩|⟨rfl,rfl⟩|⟨rfl,rfl⟩|⟨rfl,rfl⟩|⟨rfl,rfl⟩;· exact bV (aO4 v) w
    ·exact bV (aO5 v) w
    ·exact bV (aO6 v) w
    ·exact bV (aO7 v) w
    ·exact bV (aO8 v) w
   |false=>rw[h_slope]at h;simp only[F7]at h;cases h
theorem bE4{b:Nat}(h:bE3 b=true):bE3 (wV b)=true:=by
 unfold bE3 Ieee.Format.read at h⊢;have h1:Ieee.double.signWeight=2^63:=by decide
 have hm:wV b%2^63=b%2^63:=by rw[aDq];omega
 simp only[h1,hm]at h⊢;split;· rename_i h2;rw[if_pos h2]at h;cases h
 ·rename_i h2;rw[if_neg h2]at h;split
  ·rename_i h3;rw[if_pos h3]at h;cases h
  ·rename_i h3;rw[if_neg h3]at h;split
   ·rename_i h4;rw[if_pos h4]at h;cases h
   ·rfl
theorem cAi:∀b,bE3 b=true->∀w,Calls P9 21 ⟨[.float .f64 b]⟩ w λe w'=>(∃c,bE3 c=true/\e=.returned (.float .f64 c))/\RowKit.Below w.heap.size w w':=by intro b hb w;obtain⟨_,v,h1,_,h2⟩:=k53 V9 [.float .f64 b] some (.float .f64 (wV b)) rfl;cases h1;exact(h2 w).mono λe w' ⟨he,hg⟩=>⟨⟨_,bE4 hb,he⟩,hg⟩
theorem aD9{l:List (Nat×Sum)}(h:mE P9 l):(cxm P9 l).Ok where
 fair:=aI
 sums:=λf g hg=>aCq h f g hg
 exts:=λf g hg=>yJ aXx f g hg
 meths:=aPg
 nan1:=λf hf=>by
  have:f=21:=gO hf;subst this;exact⟨h53,cAi⟩
 hs:=λf args H v h=>by cases h
theorem aF7:Has P9 109:=⟨Tryz.f109,_,Tryz.func109,by kernel_rfl,rfl⟩
theorem aF8:Has P9 110:=⟨Tryz.f110,_,Tryz.func110,by kernel_rfl,rfl⟩
theorem bXn:Has P9 114:=⟨Tryz.f114,_,Tryz.func114,by kernel_rfl,rfl⟩
theorem bSq:Has P9 84:=⟨Tryz.f84,_,Tryz.func84,by kernel_rfl,rfl⟩
theorem cFi:Has P9 28:=⟨Tryz.f28,_,Tryz.func28,by kernel_rfl,rfl⟩
theorem cDa:Has P9 90:=⟨Tryz.f90,_,Tryz.func90,by kernel_rfl,rfl⟩
theorem cFk:Has P9 108:=⟨Tryz.f108,_,Tryz.func108,by kernel_rfl,rfl⟩
theorem aF9:cH P9 109 (sCB cK):=aZ3 aO (.cons bIb bZd .nil) (bP1 _)
theorem aGa:cH P9 110 (sCB bJ):=aZ3 aO .nil bCr
theorem bZv:cH P9 114 bX8:=dL aO .nil (n:=60) λR args k r hr=>by
 unfold bX8 at hr;split at hr
 ·rename_i p;cases hp:N9 p 4607182418800017408 with
  |false=>rw[hp]at hr;cases hr
  |true=>rw[hp]at hr;have:=gO hp;subst this;exact⟨rfl,by rw[cCm];exact hr⟩
 ·cases hr
theorem bZw:cH P9 114 (sFB wh1):=bZv.weak λR args k r hr=>by
 refine⟨k,?_,λv hv=>hv⟩;unfold sFB at hr;split at hr
 ·rename_i p;unfold wh1 at hr;cases hp:N9 p 4607182418800017408 with
  |false=>rw[hp]at hr;cases hr
  |true=>rw[hp]at hr;show(bif N9 p 4607182418800017408 then k (.bool true) else none)=some r;rw[hp];exact hr
 ·cases hr
theorem bXt:cH P9 84 (sEI aLk):=dL aO (.cons aF9 aF7 (.cons k80 h80 (.cons aGa aF8 (.cons bZw bXn .nil)))) (n:=60) λR args k r hr=>by
 unfold sEI at hr;split at hr;· rename_i kind a1 a2 s1 s2 p;exact⟨rfl,(aKx cK cJ bJ wh1 R kind a1 a2 s1 s2 p k).trans hr⟩
 ·cases hr
theorem cD3:cH P9 90 (sW2 dV):=dL aO (.cons k22 h22 .nil) (n:=60) λR args k r hr=>by
 unfold sW2 at hr;split at hr
 ·rename_i a b n;cases hn:(n==2) with
  |false=>rw[hn]at hr;cases hr
  |true=>
   rw[hn]at hr;have:n=2:=by simpa using hn
   subst this;exact⟨rfl,(bG3 dV R a b k).trans hr⟩
 ·cases hr
theorem cF0:cH P9 108 (bC0 yC):=dL aO .nil (n:=60) λR args k r hr=>by
 unfold bC0 at hr;split at hr;· rename_i y;exact⟨rfl,(bP4 R y k).trans hr⟩
 ·cases hr
theorem aOf{l:List (Nat×Sum)}(h:mE P9 l):(cxe P9 l).Ok where
 fair:=aI
 sums:=λf g hg=>aCq h f g hg
 exts:=λf g hg=>by cases hg
 meths:=aPg
 nan1:=λf hf=>by cases hf
 hs:=λf args H v h=>by cases h
theorem cFz:cH P9 28 (sSp cEq cEp cEo):=by
 intro R args k r hr;unfold sSp at hr;split at hr
 ·rename_i kind a1 a2 s1 s2 p z1 z2;cases h1:(kind==1&&N9 p 0) with
  |true=>rw[h1]at hr;simp only[B9,beq_iff_eq,Nat.beq_eq]at h1;obtain⟨rfl,rfl⟩:=h1;exact⟨rfl,cD (aOf (.cons bXt bSq (.cons aF9 aF7 (.cons aGa aF8 (.cons k93 h93 (.cons k21 h21 .nil)))))) aO ((cCk cK cJ bJ aP wh1 gJ R a1 a2 s1 s2 z1 z2 k).trans hr) rfl⟩
  |false=>
   rw[h1]at hr;simp only[F7]at hr;cases h2:(kind==2&&N9 p 0) with
   |true=>
    rw[h2]at hr;simp only[B9,beq_iff_eq,Nat.beq_eq]at h2;obtain⟨rfl,rfl⟩:=h2;exact⟨rfl,cD (aOf (.cons bXt bSq (.cons aF9 aF7 (.cons aGa aF8 (.cons k93 h93 (.cons k21 h21 (.cons aSf aR3 (.cons k39 h39 (.cons bMi bL5 .nil))))))))) aO
     ((cCj cK cJ bJ aP wh1 gJ rN eQ R a1 a2 s1 s2 z1 z2 k).trans hr) rfl⟩
   |false=>
    rw[h2]at hr;simp only[F7]at hr;cases h3:(kind==3&&N9 p 4607182418800017408) with
    |true=>
     rw[h3]at hr;simp only[B9,beq_iff_eq,Nat.beq_eq]at h3;obtain⟨rfl,rfl⟩:=h3;exact⟨rfl,cD (aOf (.cons bXt bSq (.cons aF9 aF7 (.cons aGa aF8 (.cons bZv bXn (.cons k93 h93 (.cons k21 h21 (.cons aSf aR3 (.cons k39 h39 (.cons cD3 cDa .nil)))))))))) aO
      ((cCi cK cJ bJ aP gJ rN dV eQ R a1 a2 s1 s2 z1 z2 k).trans hr) rfl⟩
    |false=>rw[h3]at hr;cases hr
 ·cases hr
theorem aEh:mE P9 hot:=
 .cons bXt bSq (.cons cFz cFi (.cons cF0 cFk (.cons aF9 aF7 (.cons aGa aF8 (.cons bZv bXn (.cons cD3 cDa (.cons k53 h53 (.cons k22 h22 (.cons k84 h84 (.cons k21 h21 (.cons k80 h80 (.cons bIb bZd (.cons bXs bXl (.cons k93 h93 (.cons aSf aR3 (.cons k86 h86 (.cons aZg bD5 (.cons aZh bSp (.cons bQm bL4 (.cons bZz bZg (.cons cD9 cDi (.cons bTf bSs (.cons bZu bZe (.cons k77 h77 (.cons cD7 cDf (.cons bXu bSr (.cons bXr bXk (.cons bZr bZb (.cons cDx cC2 (.cons cDz cC4 (.cons cDy cC3 (.cons k38 h38 (.cons k39 h39 (.cons bMi bL5 (.cons cEa cDj (.cons cEc cDl (.cons cD5 cDc (.cons cD8 cDg (.cons bZy bZf (.cons cEb cDk (.cons cD4 cDb (.cons cD1 cC7 .nil))))))))))))))))))))))))))))))))))))))))))
end Go.Vm
