/- A part; no conditions. -/
import Derived.Test.YtaogignikkjkjaaGreatVmWA3
set_option maxRecDepth 1000000
set_option maxHeartbeats 1000000
set_option linter.all false
open Rat renaming le_refl->R9
namespace Go.Vx
open Go.Vm
structure Cp where
 re:Rat
 im:Rat
namespace Cp
theorem ext'{a b:Cp}(h1:a.re=b.re)(h2:a.im=b.im):a=b:=by cases a;cases b;simp only at h1 h2;rw[h1,h2]
instance:Add Cp:=⟨λa b=>⟨a.re+b.re,a.im+b.im⟩⟩
instance:Sub Cp:=⟨λa b=>⟨a.re-b.re,a.im-b.im⟩⟩
instance:Neg Cp:=⟨λa=>⟨-a.re,-a.im⟩⟩
instance:Mul Cp:=⟨λa b=>⟨a.re*b.re-a.im*b.im,a.re*b.im+a.im*b.re⟩⟩
def zero:Cp:=⟨0,0⟩
def one:Cp:=⟨1,0⟩
def I:Cp:=⟨0,1⟩
def of(x:Rat):Cp:=⟨x,0⟩
def cj(a:Cp):Cp:=⟨a.re,-a.im⟩
def nsq(a:Cp):Rat:=a.re*a.re+a.im*a.im
def pw(z:Cp):Nat->Cp
 |0=>one
 |n+1=>pw z n*z
def inv(a:Cp):Cp:=⟨a.re/a.nsq,-a.im/a.nsq⟩
theorem add_re(a b:Cp):(a+b).re=a.re+b.re:=rfl
theorem add_im(a b:Cp):(a+b).im=a.im+b.im:=rfl
theorem sub_re(a b:Cp):(a-b).re=a.re-b.re:=rfl
theorem sub_im(a b:Cp):(a-b).im=a.im-b.im:=rfl
theorem neg_re(a:Cp):(-a).re=-a.re:=rfl
theorem neg_im(a:Cp):(-a).im=-a.im:=rfl
theorem mul_re(a b:Cp):(a*b).re=a.re*b.re-a.im*b.im:=rfl
theorem mul_im(a b:Cp):(a*b).im=a.re*b.im+a.im*b.re:=rfl
theorem zero_re:zero.re=0:=rfl
theorem zero_im:zero.im=0:=rfl
theorem one_re:one.re=1:=rfl
theorem one_im:one.im=0:=rfl
theorem of_re(x:Rat):(of x).re=x:=rfl
theorem of_im(x:Rat):(of x).im=0:=rfl
theorem cj_re(a:Cp):(cj a).re=a.re:=rfl
theorem cj_im(a:Cp):(cj a).im=-a.im:=rfl
theorem add_comm(a b:Cp):a+b=b+a:=ext' (by simp only[add_re];grind) (by simp only[add_im];grind)
theorem add_assoc(a b c:Cp):a+b+c=a+(b+c):=ext' (by simp only[add_re];grind) (by simp only[add_im];grind)
theorem zero_add(a:Cp):zero+a=a:=ext' (by simp only[add_re,zero_re];grind) (by simp only[add_im,zero_im];grind)
theorem add_zero(a:Cp):a+zero=a:=ext' (by simp only[add_re,zero_re];grind) (by simp only[add_im,zero_im];grind)
theorem sub_self(a:Cp):a-a=zero:=ext' (by simp only[sub_re,zero_re];grind) (by simp only[sub_im,zero_im];grind)
theorem sub_eq(a b:Cp):a-b=a+-b:=ext' (by simp only[sub_re,add_re,neg_re];grind) (by simp only[sub_im,add_im,neg_im];grind)
theorem mul_comm(a b:Cp):a*b=b*a:=ext' (by simp only[mul_re];grind) (by simp only[mul_im];grind)
theorem mul_assoc(a b c:Cp):a*b*c=a*(b*c):=ext' (by simp only[mul_re,mul_im];grind) (by simp only[mul_im,mul_re];grind)
theorem one_mul(a:Cp):one*a=a:=ext' (by simp only[mul_re,one_re,one_im];grind) (by simp only[mul_im,one_re,one_im];grind)
theorem mul_one(a:Cp):a*one=a:=by rw[mul_comm,one_mul]
theorem zero_mul(a:Cp):zero*a=zero:=ext' (by simp only[mul_re,zero_re,zero_im];grind) (by simp only[mul_im,zero_re,zero_im];grind)
theorem mul_zero(a:Cp):a*zero=zero:=by rw[mul_comm,zero_mul]
theorem mul_add(a b c:Cp):a*(b+c)=a*b+a*c:=ext' (by simp only[mul_re,add_re,add_im];grind) (by simp only[mul_im,add_im,add_re];grind)
theorem add_mul(a b c:Cp):(a+b)*c=a*c+b*c:=by rw[mul_comm,mul_add,mul_comm c a,mul_comm c b]
theorem mul_sub(a b c:Cp):a*(b-c)=a*b-a*c:=ext' (by simp only[mul_re,sub_re,sub_im];grind) (by simp only[mul_im,sub_im,sub_re];grind)
theorem sub_mul(a b c:Cp):(a-b)*c=a*c-b*c:=by rw[mul_comm,mul_sub,mul_comm c a,mul_comm c b]
theorem mul_left_comm(a b c:Cp):a*(b*c)=b*(a*c):=by rw[<-mul_assoc,mul_comm a b,mul_assoc]
theorem of_mul(x:Rat)(a:Cp):of x*a=⟨x*a.re,x*a.im⟩:=ext' (by simp only[mul_re,of_re,of_im];grind) (by simp only[mul_im,of_re,of_im];grind)
theorem of_mul_of(x y:Rat):of (x*y)=of x*of y:=ext' (by simp only[mul_re,of_re,of_im];grind) (by simp only[mul_im,of_re,of_im];grind)
theorem of_add(x y:Rat):of (x+y)=of x+of y:=ext' (by simp only[add_re,of_re]) (by simp only[add_im,of_im];grind)
theorem nsq_mul(a b:Cp):(a*b).nsq=a.nsq*b.nsq:=by unfold nsq;simp only[mul_re,mul_im];grind
theorem nsq_nonneg(a:Cp):0<=a.nsq:=by have h1:=aT a.re;have h2:=aT a.im;unfold nsq;grind
theorem nsq_cj(a:Cp):a.cj.nsq=a.nsq:=by unfold nsq;simp only[cj_re,cj_im];grind
theorem mul_cj(a:Cp):a*a.cj=of a.nsq:=ext' (by simp only[mul_re,cj_re,cj_im,of_re,nsq];grind) (by simp only[mul_im,cj_re,cj_im,of_im];grind)
theorem bRn(a b:Cp):(a*b).cj=a.cj*b.cj:=ext' (by simp only[mul_re,cj_re,cj_im];grind) (by simp only[mul_im,cj_re,cj_im];grind)
theorem cj_add(a b:Cp):(a+b).cj=a.cj+b.cj:=ext' (by simp only[add_re,cj_re]) (by simp only[add_im,cj_im];grind)
theorem bRo:one.cj=one:=ext' rfl (by simp only[cj_im,one_im];grind)
theorem cj_pw(z:Cp):∀n,(pw z n).cj=pw z.cj n
 |0=>bRo
 |n+1=>by simp only[pw];rw[bRn,cj_pw z n]
theorem pw_add(z:Cp)(m:Nat):∀n,pw z (m+n)=pw z m*pw z n
 |0=>by simp only[pw,Nat.add_zero];rw[mul_one]
 |n+1=>by rw[<-Nat.add_assoc];simp only[pw];rw[pw_add z m n,mul_assoc]
theorem pw_one(z:Cp):pw z 1=z:=by simp only[pw];rw[one_mul]
theorem pw_mul(z w:Cp):∀n,pw (z*w) n=pw z n*pw w n
 |0=>by simp only[pw];rw[mul_one]
 |n+1=>by simp only[pw];rw[pw_mul z w n,mul_assoc,mul_assoc,mul_left_comm (pw w n)]
theorem pw_unit:∀n,pw one n=one
 |0=>rfl
 |n+1=>by simp only[pw];rw[pw_unit n,mul_one]
theorem inv_mul{a:Cp}(h:a.nsq≠0):a*a.inv=one:=by
 have e:=Rat.mul_inv_cancel a.nsq h;have hn:a.nsq=a.re*a.re+a.im*a.im:=rfl;refine ext' ?_ ?_
 ·simp only[mul_re,inv,one_re,Rat.div_def];generalize (a.nsq)⁻¹=q at *
  grind
 ·simp only[mul_im,inv,one_im,Rat.div_def];grind
theorem cancel{a b c:Cp}(h:a.nsq≠0)(e:a*b=a*c):b=c:=by
 have h1:a.inv*(a*b)=a.inv*(a*c):=by rw[e]
 rw[<-mul_assoc,<-mul_assoc,mul_comm a.inv a,inv_mul h,one_mul,one_mul]at h1;exact h1
end Cp
def Nm(z:Cp)(r:Rat):Prop:=0<=r/\z.nsq<=r*r
def Ng(z:Cp)(r:Rat):Prop:=0<=r/\r*r<=z.nsq
theorem oX{x y:Rat}(h0:0<=x)(h:x<=y):x*x<=y*y:=aC h h h0 (cR h0 h)
theorem xG{x y:Rat}(h0:0<=y)(h:x*x<=y*y):x<=y:=by
 refine Rat.not_lt.1 λhl=>?_
 have h1:=Rat.mul_lt_mul_of_pos_left hl (show 0<x by grind);have h2:=cG (bN hl) h0;grind
theorem bYu{a b:Cp}{r s:Rat}(h:Nm a r)(g:Nm b s):a.re*b.re+a.im*b.im<=r*s:=by
 obtain⟨h0,h1⟩:=h;obtain⟨g0,g1⟩:=g;refine xG (bU h0 g0) ?_;have e:(a.re*b.re+a.im*b.im)*(a.re*b.re+a.im*b.im)+(a.re*b.im-a.im*b.re)*(a.re*b.im-a.im*b.re)=a.nsq*b.nsq:=by unfold Cp.nsq;grind
 have n:=aT (a.re*b.im-a.im*b.re);have m:=aC h1 g1 b.nsq_nonneg (bU h0 h0);grind
theorem Nm.add{a b:Cp}{r s:Rat}(h:Nm a r)(g:Nm b s):Nm (a+b) (r+s):=by
 have c:=bYu h g;obtain⟨h0,h1⟩:=h;obtain⟨g0,g1⟩:=g;refine⟨by grind,?_⟩;have e:(a+b).nsq=a.nsq+b.nsq+2*(a.re*b.re+a.im*b.im):=by unfold Cp.nsq;simp only[Cp.add_re,Cp.add_im];grind
 grind
theorem Nm.neg{a:Cp}{r:Rat}(h:Nm a r):Nm (-a) r:=by
 refine⟨h.1,?_⟩;have e:(-a).nsq=a.nsq:=by unfold Cp.nsq;simp only[Cp.neg_re,Cp.neg_im];grind
 rw[e];exact h.2
theorem Nm.sub{a b:Cp}{r s:Rat}(h:Nm a r)(g:Nm b s):Nm (a-b) (r+s):=by rw[Cp.sub_eq];exact h.add g.neg
theorem Nm.comm{a b:Cp}{r:Rat}(h:Nm (a-b) r):Nm (b-a) r:=by have:=h.neg;rwa[show -(a-b)=b-a from Cp.ext' (by simp only[Cp.neg_re,Cp.sub_re];grind) (by simp only[Cp.neg_im,Cp.sub_im];grind)]at this
theorem Nm.mul{a b:Cp}{r s:Rat}(h:Nm a r)(g:Nm b s):Nm (a*b) (r*s):=by refine⟨bU h.1 g.1,?_⟩;rw[Cp.nsq_mul];have m:=aC h.2 g.2 b.nsq_nonneg (bU h.1 h.1);grind
theorem Nm.mono{a:Cp}{r s:Rat}(h:Nm a r)(g:r<=s):Nm a s:=⟨cR h.1 g,cR h.2 (oX h.1 g)⟩
theorem Nm.cj{a:Cp}{r:Rat}(h:Nm a r):Nm a.cj r:=⟨h.1,by rw[Cp.nsq_cj];exact h.2⟩
theorem Nm.tri{a b c:Cp}{r s:Rat}(h:Nm (a-b) r)(g:Nm (b-c) s):Nm (a-c) (r+s):=by have:=h.add g;rwa[show a-b+(b-c)=a-c from Cp.ext' (by simp only[Cp.add_re,Cp.sub_re];grind) (by simp only[Cp.add_im,Cp.sub_im];grind)]at this
theorem Nm.near{a b:Cp}{r s:Rat}(h:Nm (a-b) r)(g:Nm b s):Nm a (r+s):=by have:=h.add g;rwa[show a-b+b=a from Cp.ext' (by simp only[Cp.add_re,Cp.sub_re];grind) (by simp only[Cp.add_im,Cp.sub_im];grind)]at this
theorem jM:Nm Cp.zero 0:=⟨R9,by unfold Cp.nsq;simp only[Cp.zero_re,Cp.zero_im];grind⟩
theorem aHi:Nm Cp.one 1:=⟨by decide,by unfold Cp.nsq;simp only[Cp.one_re,Cp.one_im];grind⟩
theorem oV{x r:Rat}(h:x.abs<=r):Nm (Cp.of x) r:=by
 have h0:=cR (aH x) h;refine⟨h0,?_⟩;have:=oX (aH x) h;have e:x.abs*x.abs=x*x:=by rw[<-bD,fZ (aT x)]
 unfold Cp.nsq;simp only[Cp.of_re,Cp.of_im];grind
theorem xV{z:Cp}{r:Rat}(h:Nm z r):∀n,Nm (z.pw n) (r^n)
 |0=>by rw[Rat.pow_zero];exact aHi
 |n+1=>by rw[Rat.pow_succ];exact(xV h n).mul h
theorem Nm.re{a:Cp}{r:Rat}(h:Nm a r):a.re.abs<=r:=by
 have h2:=h.2;have n:=aT a.im;unfold Cp.nsq at h2;refine xG h.1 ?_;have e:a.re.abs*a.re.abs=a.re*a.re:=by rw[<-bD,fZ (aT _)]
 grind
theorem Nm.im{a:Cp}{r:Rat}(h:Nm a r):a.im.abs<=r:=by
 have h2:=h.2;have n:=aT a.re;unfold Cp.nsq at h2;refine xG h.1 ?_;have e:a.im.abs*a.im.abs=a.im*a.im:=by rw[<-bD,fZ (aT _)]
 grind
theorem aJq{a:Cp}{r s:Rat}(h:a.re.abs<=r)(g:a.im.abs<=s):Nm a (r+s):=by
 have h0:=cR (aH _) h;have g0:=cR (aH _) g;refine⟨by grind,?_⟩;have h1:=oX (aH _) h;have g1:=oX (aH _) g;have e1:a.re.abs*a.re.abs=a.re*a.re:=by rw[<-bD,fZ (aT _)]
 have e2:a.im.abs*a.im.abs=a.im*a.im:=by rw[<-bD,fZ (aT _)]
 have:=bU h0 g0;unfold Cp.nsq;grind
theorem vG{a:Cp}{r:Rat}(h:a.re.abs<=r)(g:a.im.abs<=r):Nm a (3/2*r):=by
 have h0:=cR (aH _) h;refine⟨by grind,?_⟩;have h1:=oX (aH _) h;have g1:=oX (aH _) g;have e1:a.re.abs*a.re.abs=a.re*a.re:=by rw[<-bD,fZ (aT _)]
 have e2:a.im.abs*a.im.abs=a.im*a.im:=by rw[<-bD,fZ (aT _)]
 have:=bU h0 h0;unfold Cp.nsq;grind
theorem Ng.mul{a b:Cp}{r s:Rat}(h:Ng a r)(g:Ng b s):Ng (a*b) (r*s):=by refine⟨bU h.1 g.1,?_⟩;rw[Cp.nsq_mul];have m:=aC h.2 g.2 (bU g.1 g.1) a.nsq_nonneg;grind
theorem Ng.mono{a:Cp}{r s:Rat}(h:Ng a r)(h0:0<=s)(g:s<=r):Ng a s:=⟨h0,cR (oX h0 g) h.2⟩
theorem bE6{a:Cp}{r s:Rat}(h:Ng a r)(g:Nm a s):r<=s:=xG g.1 (cR h.2 g.2)
theorem oG{a b:Cp}{r s:Rat}(h:Ng a r)(g:Nm b s)(hs:s<=r):Ng (a+b) (r-s):=by
 refine⟨by grind,?_⟩;obtain⟨h0,h1⟩:=h;have c:-(a.re*b.re+a.im*b.im)*-(a.re*b.re+a.im*b.im)<=a.nsq*(s*s):=by
  have e:(a.re*b.re+a.im*b.im)*(a.re*b.re+a.im*b.im)+(a.re*b.im-a.im*b.re)*(a.re*b.im-a.im*b.re)=a.nsq*b.nsq:=by unfold Cp.nsq;grind
  have n:=aT (a.re*b.im-a.im*b.re);have m:=dI g.2 a.nsq_nonneg;grind
 have e:(a+b).nsq=a.nsq+b.nsq+2*(a.re*b.re+a.im*b.im):=by unfold Cp.nsq;simp only[Cp.add_re,Cp.add_im];grind
 have cb:-(a.re*b.re+a.im*b.im)*-(a.re*b.re+a.im*b.im)<=a.nsq*b.nsq:=by
  have e:(a.re*b.re+a.im*b.im)*(a.re*b.re+a.im*b.im)+(a.re*b.im-a.im*b.re)*(a.re*b.im-a.im*b.re)=a.nsq*b.nsq:=by unfold Cp.nsq;grind
  have n:=aT (a.re*b.im-a.im*b.re);grind
 rw[e];have hB:=b.nsq_nonneg;have hBs:=g.2;generalize a.re*b.re+a.im*b.im=t at *
 generalize a.nsq=N at *
 generalize b.nsq=B at *
 have hs0:=g.1;refine Rat.not_lt.1 λhl=>?_
 have hX:0<=N+B-(r-s)*(r-s):=by have:=bU h0 hs0;have:=dI hs hs0;grind
 have h2:N+B-(r-s)*(r-s) < -2*t:=by grind
 have h3:(N+B-(r-s)*(r-s))*(N+B-(r-s)*(r-s))<(-2*t)*(-2*t):=by have k1:=dI (bN h2) hX;have k2:=Rat.mul_lt_mul_of_pos_right h2 (show 0 < -2*t by grind);grind
 have h5:(N-B-(r*r-s*s))*(N-B-(r*r-s*s))+0≥0:=by have:=aT (N-B-(r*r-s*s));grind
 have u0:0<=N-r*r:=by grind
 have v0:0<=s*s-B:=by grind
 have p2:=bU (bU hs0 (show 0<=r-s by grind)) u0;have p3:=bU (bU h0 (show 0<=r-s by grind)) v0;grind
end Go.Vx
namespace Go.Vm
open Ieee
theorem aVt{w:Nat}{x z:Rat}(h:Is w z)(q:Rnd x z)(hx:0<=x):0<=z:=by
 obtain⟨K,e,k1,k2,k3,rfl⟩:=aZa h;rcases Int.lt_or_le K 0 with hK|hK
 ·exfalso;have pe:=bG e;have hK':(K:Rat)<=-1:=by
   have:K<=-1:=by omega
   have h2:(K:Rat)<=((-1:Int):Rat):=by exact_mod_cast this
   rwa[show((-1:Int):Rat)=-1 by norm_cast]at h2
  have m:=cG hK' (bN pe);have p1:=cY (show(-1074:Int)<=e by omega);have p2:=fA (-1074);rw[show(-1074-1:Int)=-1075 by decide]at p2;have p53:=cY (show(-53:Int)<=0 by decide);rw[Rat.zpow_zero]at p53;rcases q.near with g|g;· rw[fZ hx]at g;have:=aA.1 g;grind
  ·have:=aA.1 g;grind
 ·exact bU (by exact_mod_cast hK) (bN (bG e))
theorem aNn(s:Bool):double.read (double.write (.infinity s))=.infinity s:=by cases s<;>decide
def tn:Rat:=(2:Rat)^(-1074:Int)
theorem aCr:0<tn:=bG _
theorem pT:tn<=eps*(1/1000000):=by unfold tn eps;have h:=cY (show(-1074:Int)<=-51+-20 by decide);rw[bO,aPt]at h;have:=bG (-51);grind
theorem q4:(2:Rat)^(-53:Int)=eps/4:=by unfold eps;have h1:=fA (-51);have h2:=fA (-52);rw[show(-51-1:Int)=-52 by decide]at h1;rw[show(-52-1:Int)=-53 by decide]at h2;grind
theorem Rnd.fine{x z:Rat}(h:Rnd x z):(z-x).abs<=x.abs*(eps/4)+tn:=by
 have t:=aCr;have n:=aH x;have m:=bU n (show 0<=eps/4 by have:=bI;grind);rcases h.near with g|g;· rw[q4]at g;grind
 ·have:=cY (show(-1075:Int)<=-1074 by decide);unfold tn at *
  grind
theorem bQc.fine{x z:Rat}(h:bQc x z):(z-x).abs<=x.abs*(eps/2)+tn:=by
 have t:=aCr;have n:=aH x;have m:=bU n (show 0<=eps/2 by have:=bI;grind);have e:(2:Rat)^(-52:Int)=eps/2:=by unfold eps;have h1:=fA (-51);rw[show(-51-1:Int)=-52 by decide]at h1;grind
 rcases h.near with g|g;· rw[e]at g;grind
 ·unfold tn at *;grind
theorem aNb(x:Rat):(x*x).abs=x*x:=fZ (aT x)
theorem aOy{a b:Nat}{x y:Rat}(ha:Is a x)(hb:Is b y){g:Nat}{G:Rat}(hg:Is g G)(hG0:G≠0)(hgk:∀(R:Type)(k:KNO R),sA R a b k=k g)(R:Type)(k:KNO R):
  cQ R a b k=yU R a b λx y e=>wR R x y λs=>aGs R s λr=>wP R r e k:=by
 unfold cQ aJf;rw[oU ha,aJ];simp only;rw[oU hb,aJ];simp only;rw[lX ha,aJ];simp only;rw[lX hb,aJ];simp only;rw[hgk,aJ,qT hg hJ,show((0:Int):Rat)=0 from rfl,E7 hG0]
theorem nX{x y:Rat}(hy:0<=y)(h:x*x<=y*y):x<=y:=by
 refine Rat.not_lt.1 λhc=>?_
 have h1:=Rat.mul_lt_mul_of_pos_right hc (show 0<x by grind);have h2:=dI (bN hc) hy;grind
theorem bR4:eps<=1/1000000:=by rw[oP];grind
theorem cAr{x:Rat}(h:x.abs<=1000):x.abs<(2:Rat)^(1022:Int):=by
 have h6:=cY (show(10:Int)<=1022 by decide);have h8:(2:Rat)^(10:Int)=1024:=by rw[show(10:Int)=((10:Nat):Int) by rfl,cN];rfl
 grind
def iG:Rat:=(2:Rat)^(200:Int)
theorem kY{x:Rat}(h:x.abs<=iG):x.abs<(2:Rat)^(1023:Int):=by have h1:=cY (show(201:Int)<=1023 by decide);have h2:=fA 201;rw[show(201-1:Int)=200 by decide]at h2;have:=bG 200;unfold iG at h;grind
section
variable{a b:Nat}{A B:Rat}
theorem jT(ha:Is a A)(hb:Is b B)(h:A.abs*B.abs<=iG):∃c C,fbF .mul a b=some c/\Is c C/\(C-A*B).abs<=eps/4*(A.abs*B.abs)+tn/\(A=0\/B=0->C=0):=by
 obtain⟨c,C,g1,g2,g3⟩:=kH ha hb (kY (by rw[bD];exact h));refine⟨c,C,g1,g2,?_,λh0=>?_⟩;· have:=g3.fine;rw[bD]at this;grind
 ·have e:A*B=0:=by rcases h0 with h0|h0<;>rw[h0]<;>grind
  have:=g3.rep 0 0 (by decide) (by decide) (by rw[e];simp);rw[this,e]
theorem bD1(ha:Is a A)(hb:Is b B)(h:A.abs+B.abs<=iG):∃c C,fbF .add a b=some c/\Is c C/\(C-(A+B)).abs<=eps/4*(A.abs+B.abs)+tn/\(A+B=0->C=0)/\(0<=A+B->0<=C):=by
 have hx:(A+B).abs<=A.abs+B.abs:=aL A B;obtain⟨c,C,g1,g2,g3⟩:=mJ ha hb (kY (cR hx h));refine⟨c,C,g1,g2,?_,λh0=>?_,λh0=>aVt g2 g3 h0⟩;· have:=g3.fine;have ep:=bI;have:=dI hx (show 0<=eps/4 by grind);grind
 ·have:=g3.rep 0 0 (by decide) (by decide) (by rw[h0];simp);rw[this,h0]
end
end Go.Vm
namespace Go.Vx
open Go.Vm
def IsZ(a b:Nat)(z:Cp):Prop:=Is a z.re/\Is b z.im
def Rl(z Z:Cp)(δ:Rat):Prop:=∃e,Nm e δ/\z=Z*(Cp.one+e)
theorem Rl.mono{z Z:Cp}{δ γ:Rat}(h:Rl z Z δ)(g:δ<=γ):Rl z Z γ:=let ⟨e,h1,h2⟩:=h;⟨e,h1.mono g,h2⟩
theorem Rl.refl(z:Cp){δ:Rat}(h:0<=δ):Rl z z δ:=⟨Cp.zero,jM.mono h,by rw[Cp.add_zero,Cp.mul_one]⟩
theorem bAc(a b:Cp):(Cp.one+a)*(Cp.one+b)=Cp.one+(a+b+a*b):=by rw[Cp.add_mul,Cp.one_mul,Cp.mul_add,Cp.mul_one];exact Cp.ext' (by simp only[Cp.add_re];grind) (by simp only[Cp.add_im];grind)
theorem Rl.trans{x y z:Cp}{δ γ:Rat}(h:Rl x y δ)(g:Rl y z γ):Rl x z (δ+γ+δ*γ):=by obtain⟨a,a1,rfl⟩:=h;obtain⟨b,b1,rfl⟩:=g;refine⟨b+a+b*a,?_,by rw[Cp.mul_assoc,bAc]⟩;have:=(b1.add a1).add (b1.mul a1);exact this.mono (by grind)
theorem Rl.mul{x X y Y:Cp}{δ γ:Rat}(h:Rl x X δ)(g:Rl y Y γ):Rl (x*y) (X*Y) (δ+γ+δ*γ):=by obtain⟨a,a1,rfl⟩:=h;obtain⟨b,b1,rfl⟩:=g;refine⟨a+b+a*b,(a1.add b1).add (a1.mul b1),?_⟩;rw[<-bAc,Cp.mul_assoc,Cp.mul_assoc,Cp.mul_left_comm Y]
theorem Rl.err{z Z:Cp}{δ r:Rat}(h:Rl z Z δ)(g:Nm Z r):Nm (z-Z) (r*δ):=by
 obtain⟨e,e1,rfl⟩:=h;have:Z*(Cp.one+e)-Z=Z*e:=by rw[Cp.mul_add,Cp.mul_one];exact Cp.ext' (by simp only[Cp.add_re,Cp.sub_re];grind) (by simp only[Cp.add_im,Cp.sub_im];grind)
 rw[this];exact g.mul e1
theorem Rl.zero{z Z:Cp}{δ:Rat}(h:Rl z Z δ)(g:Z=Cp.zero):z=Cp.zero:=by obtain⟨e,e1,rfl⟩:=h;rw[g,Cp.zero_mul]
theorem aF6{z:Cp}(h:z.nsq=0):z=Cp.zero:=by
 unfold Cp.nsq at h;have h1:=aT z.re;have h2:=aT z.im;have g:∀{x:Rat},x*x=0->x=0:=λ{x} hx=>by rcases Rat.mul_eq_zero.1 hx with h|h<;>exact h
 exact Cp.ext' (g (by grind)) (g (by grind))
theorem aPm{z:Cp}(h:z.nsq≠0):z.nsq*z.inv.nsq=1:=by have e:=congrArg Cp.nsq (Cp.inv_mul h);rw[Cp.nsq_mul]at e;rw[e];unfold Cp.nsq;simp only[Cp.one_re,Cp.one_im];grind
theorem aKg{z Z:Cp}{δ:Rat}(h0:0<=δ)(hz:Z.nsq≠0)(h:(z-Z).nsq<=δ*δ*Z.nsq):Rl z Z δ:=by
 refine⟨(z-Z)*Z.inv,⟨h0,?_⟩,?_⟩
 ·rw[Cp.nsq_mul];have i0:=Z.inv.nsq_nonneg;have:=cG h i0;have e:=aPm hz;have:δ*δ*Z.nsq*Z.inv.nsq=δ*δ:=by rw[Rat.mul_assoc,e];grind
  grind
 ·rw[Cp.mul_add,Cp.mul_one,Cp.mul_left_comm,Cp.inv_mul hz,Cp.mul_one];exact Cp.ext' (by simp only[Cp.add_re,Cp.sub_re];grind) (by simp only[Cp.add_im,Cp.sub_im];grind)
theorem oL(x:Rat):x.abs*x.abs=x*x:=by rw[<-bD,fZ (aT _)]
theorem aQ5{a b c d:Rat}:(a.abs*c.abs+b.abs*d.abs)*(a.abs*c.abs+b.abs*d.abs)<=(a*a+b*b)*(c*c+d*d):=by
 have h:=aT (a.abs*d.abs-b.abs*c.abs);have e1:=oL a;have e2:=oL b;have e3:=oL c;have e4:=oL d;rw[<-e1,<-e2,<-e3,<-e4];generalize a.abs=p at *
 generalize b.abs=q at *
 generalize c.abs=r at *
 generalize d.abs=s at *
 grind
theorem aDg{x1 X1 x2 X2 z u v:Rat}(h1:(X1-u).abs<=eps/4*x1+tn)(h2:(X2-v).abs<=eps/4*x2+tn)(hu:u.abs<=x1)(hv:v.abs<=x2)(h3:(z-(X1+X2)).abs<=eps/4*(X1.abs+X2.abs)+tn):
  (z-(u+v)).abs<=501/1000*eps*(x1+x2)+4*tn:=by
 have ep:=bI;have el:=aB7;have t0:=aCr;have n1:=cR (aH u) hu;have n2:=cR (aH v) hv;have a1:X1.abs<=x1+(eps/4*x1+tn):=by have:=aL (X1-u) u;rw[show X1-u+u=X1 by grind]at this;grind
 have a2:X2.abs<=x2+(eps/4*x2+tn):=by have:=aL (X2-v) v;rw[show X2-v+v=X2 by grind]at this;grind
 have b1:=aL (z-(X1+X2)) (X1-u+(X2-v));rw[show z-(X1+X2)+(X1-u+(X2-v))=z-(u+v) by grind]at b1;have b2:=aL (X1-u) (X2-v);have c1:=dI (show X1.abs+X2.abs<=x1+x2+(eps/4*x1+eps/4*x2+2*tn) by grind) (show 0<=eps/4 by grind);have c2:=cG el (bU (bN ep) (show 0<=x1+x2 by grind));have c3:=cG el (bN t0);have c4:=bU (bN ep) (show 0<=x1+x2 by grind);generalize (z-(u+v)).abs=Q at *
 generalize (z-(X1+X2)).abs=Q1 at *
 generalize (X1-u+(X2-v)).abs=Q2 at *
 generalize (X1-u).abs=Q3 at *
 generalize (X2-v).abs=Q4 at *
 generalize X1.abs=Q5 at *
 generalize X2.abs=Q6 at *
 clear hu hv n1 n2;grind
theorem aFu{z X m N:Rat}(h:z.abs<=501/1000*eps*X+4*tn)(X0:0<=X)(m0:0<=m)(hm:4*tn<=1/1000*eps*m)(hX:X*X<=N)(hmN:m*m<=N):z*z<=26/100*(eps*eps)*N:=by
 have ep:=bI;have h1:z.abs<=eps*(501/1000*X+1/1000*m):=by grind
 have h2:=aC h1 h1 (aH z) (bU (bN ep) (by grind));rw[oL]at h2;have ee:=bU (bN ep) (bN ep);have h3:(501/1000*X+1/1000*m)*(501/1000*X+1/1000*m)<=26/100*N:=by have:=aT (X-m);have:=aT X;clear h h1 h2 hm ep;grind
 have:=dI h3 ee;grind
theorem aFq{A:Cp}{r:Rat}(h:Nm A r):A.re.abs<=r/\A.im.abs<=r:=⟨h.re,h.im⟩
theorem vE{a b c d:Nat}{A B:Cp}(hA:IsZ a b A)(hB:IsZ c d B){r s m:Rat}(rA:Nm A r)(sB:Nm B s)(big:16*(r*s)+1<=iG)(h0:A=Cp.zero\/B=Cp.zero\/(Ng (A*B) m/\4*tn<=1/1000*eps*m)):
  ∃p q P,IsZ p q P/\Rl P (A*B) eps/\∀(R:Type)(k:KNN R),dV R a b c d k=k p q:=by
 have ep:=bI;have el:=aB7;have t0:=aCr;have ts:=pT;obtain⟨A1,A2⟩:=hA;obtain⟨B1,B2⟩:=hB;obtain⟨a1,a2⟩:=aFq rA;obtain⟨b1,b2⟩:=aFq sB;have bd:∀{u v:Rat},u.abs<=r->v.abs<=s->u.abs*v.abs<=r*s:=λ{u v} h1 h2=>aC h1 h2 (aH v) rA.1
 have rs0:=bU rA.1 sB.1;obtain⟨x1,X1,f1,i1,e1,z1⟩:=jT A1 B1 (cR (bd a1 b1) (by grind));obtain⟨x2,X2,f2,i2,e2,z2⟩:=jT A2 B2 (cR (bd a2 b2) (by grind));obtain⟨x3,X3,f3,i3,e3,z3⟩:=jT A1 B2 (cR (bd a1 b2) (by grind));obtain⟨x4,X4,f4,i4,e4,z4⟩:=jT A2 B1 (cR (bd a2 b1) (by grind));have sz:∀{u X:Rat}{v w:Rat},(X-u).abs<=eps/4*(v.abs*w.abs)+tn->u=v*w->v.abs<=r->w.abs<=s->X.abs<=2*(r*s)+1/4:=λ{u X v w} h1 h2 h3 h4=>by have q:=bd h3 h4;have:=aL (X-u) u;rw[show X-u+u=X by grind,h2,bD]at this;have c:=cG (show eps/4<=1/2 by grind) (bU (aH v) (aH w));rw[h2]at h1;grind
 have s1:=sz e1 rfl a1 b1;have s2:=sz e2 rfl a2 b2;have s3:=sz e3 rfl a1 b2;have s4:=sz e4 rfl a2 b1;obtain⟨y1,Y1,g1,j1,d1⟩:=qD i1 i2 (kY (cR (show(X1-X2).abs<=X1.abs+X2.abs by have:=aL X1 (-X2);rw[abs_neg]at this;grind) (by grind)));obtain⟨y2,Y2,g2,j2,d2⟩:=mJ i3 i4 (kY (cR (aL X3 X4) (by grind)));have run:∀(R:Type)(k:KNN R),dV R a b c d k=k y1 y2:=λR k=>by unfold dV;rw[aK f1,aK f2,aK g1,aK f3,aK f4,aK g2]
 refine⟨y1,y2,⟨Y1,Y2⟩,⟨j1,j2⟩,?_,run⟩;have p1:(Y1-(A.re*B.re+-(A.im*B.im))).abs<=501/1000*eps*(A.re.abs*B.re.abs+A.im.abs*B.im.abs)+4*tn:=by
  refine aDg (X1:=X1) (X2:=-X2) e1 ?_ (by rw[bD];exact R9) (by rw[abs_neg,bD];exact R9) ?_;· rw[show -X2 - -(A.im*B.im)=-(X2-A.im*B.im) by grind,abs_neg];exact e2
  ·have:=d1.fine;have t:=aL X1 (-X2);rw[abs_neg,show X1+-X2=X1-X2 by grind]at t;rw[abs_neg,show Y1-(X1+-X2)=Y1-(X1-X2) by grind];have:=cG t (show 0<=eps/4 by grind);grind
 have p2:(Y2-(A.re*B.im+A.im*B.re)).abs<=501/1000*eps*(A.re.abs*B.im.abs+A.im.abs*B.re.abs)+4*tn:=by refine aDg (X1:=X3) (X2:=X4) e3 e4 (by rw[bD];exact R9) (by rw[bD];exact R9) ?_;have:=d2.fine;have t:=aL X3 X4;have:=cG t (show 0<=eps/4 by grind);grind
 have zero_all:(A.re=0/\A.im=0)\/(B.re=0/\B.im=0)->Rl ⟨Y1,Y2⟩ (A*B) eps:=λh=>by
  have q1:X1=0:=z1 (h.imp (λh=>h.1) λh=>h.1);have q2:X2=0:=z2 (h.imp (λh=>h.2) λh=>h.2);have q3:X3=0:=z3 (h.imp (λh=>h.1) λh=>h.2);have q4:X4=0:=z4 (h.imp (λh=>h.2) λh=>h.1);subst q1 q2 q3 q4;have w1:=aAp d1 (by grind);have w2:=aAp d2 (by grind);have:A*B=Cp.zero:=by
   rcases h with h|h
   ·refine Cp.ext' ?_ ?_
    ·rw[Cp.mul_re,h.1,h.2,Cp.zero_re];grind
    ·rw[Cp.mul_im,h.1,h.2,Cp.zero_im];grind
   ·refine Cp.ext' ?_ ?_
    ·rw[Cp.mul_re,h.1,h.2,Cp.zero_re];grind
    ·rw[Cp.mul_im,h.1,h.2,Cp.zero_im];grind
  rw[this,show(⟨Y1,Y2⟩:Cp)=Cp.zero from Cp.ext' w1 w2];exact Rl.refl _ (bN ep)
 rcases h0 with h0|h0|⟨hm,htn⟩;· exact zero_all (.inl (by rw[h0];exact⟨rfl,rfl⟩))
 ·exact zero_all (.inr (by rw[h0];exact⟨rfl,rfl⟩))
 ·have c1:=aQ5 (a:=A.re) (b:=A.im) (c:=B.re) (d:=B.im);have c2:=aQ5 (a:=A.re) (b:=A.im) (c:=B.im) (d:=B.re);have eN:(A*B).nsq=(A.re*A.re+A.im*A.im)*(B.re*B.re+B.im*B.im):=Cp.nsq_mul A B;have hmN:=hm.2;have m0:=hm.1;have mpos:0<m:=by
   refine Rat.not_le.1 λhl=>?_
   have:=bU (show(0:Rat)<=1/1000*eps by grind) (show 0<=-m by grind);grind
  have N0:(A*B).nsq≠0:=λe=>by have:=Rat.mul_pos mpos mpos;grind
  rw[eN]at hmN;have k1:=aFu p1 (by have:=bU (aH A.re) (aH B.re);have:=bU (aH A.im) (aH B.im);grind) m0 htn c1 hmN;have k2:=aFu p2 (by have:=bU (aH A.re) (aH B.im);have:=bU (aH A.im) (aH B.re);grind) m0 htn (by grind) hmN;refine aKg (bN ep) N0 ?_;rw[eN];have en:((⟨Y1,Y2⟩:Cp)-A*B).nsq=(Y1-(A.re*B.re+-(A.im*B.im)))*(Y1-(A.re*B.re+-(A.im*B.im)))+(Y2-(A.re*B.im+A.im*B.re))*(Y2-(A.re*B.im+A.im*B.re)):=by unfold Cp.nsq;simp only[Cp.sub_re,Cp.sub_im,Cp.mul_re,Cp.mul_im];grind
  rw[en];have ee:=bU (bU (bN ep) (bN ep)) (cR (bU m0 m0) hmN);grind
end Go.Vx
namespace Go.Vm
open Ieee
theorem bFr{a b r:Nat}{z:Rat}(hb:Is b 0)(h:fbF .quo a b=some r)(hr:Is r z):False:=by
 obtain⟨_,t,n,j,hb,hv⟩:=hb;have hn:n=0:=by
  unfold dv at hv;have p0:=bG j;rcases Nat.eq_zero_or_pos n with h|h;· exact h
  ·exfalso;have:(0:Rat)<(n:Rat):=by exact_mod_cast h
   have:=Rat.mul_pos this p0;unfold sg at hv;split at hv<;>grind
 subst hn;rw[tV]at h;have h2:((double.read a).quotient (double.fractionBits+2) (double.read b)).map double.write=some r:=h;rw[hb]at h2;obtain⟨_,s,m,i,hi,_⟩:=hr;cases ha:double.read a with
 |nan s t=>rw[ha]at h2;cases h2
 |infinity s'=>rw[ha]at h2;simp only[Datum.quotient,Option.map_some,Option.some.injEq]at h2;subst h2;rw[aNn]at hi;cases hi
 |number s' m' i'=>
  rw[ha]at h2;simp only[Datum.quotient,if_true]at h2;split at h2;· cases h2
  ·simp only[Option.map_some,Option.some.injEq]at h2;subst h2;rw[aNn]at hi;cases hi
theorem lK{R:Type}{o:Option Nat}{k:Nat->Option R}{r:R}(h:aM o k=some r):∃w,o=some w/\k w=some r:=by
 cases o with
 |none=>cases h
 |some w=>exact⟨w,rfl,by rwa[aK rfl]at h⟩
end Go.Vm
namespace Go.Vx
open Go.Vm
theorem bM0{P D:Cp}(h:D.nsq≠0):P*D.inv*D=P:=by rw[Cp.mul_assoc,Cp.mul_comm D.inv,Cp.inv_mul h,Cp.mul_one]
theorem vF{z:Cp}{m:Rat}(h:Ng z m)(hm:0<m):z.nsq≠0:=λe=>by have:=h.2;have:=Rat.mul_pos hm hm;grind
theorem aBg{D:Cp}{m r:Rat}(hm:Ng D m)(hr:Nm D r):∃W,D.re.abs<=W/\D.im.abs<=W/\(W=D.re.abs\/W=D.im.abs)/\m/2<=W/\W<=r:=by
 have e1:=oL D.re;have e2:=oL D.im;have n1:=aH D.re;have n2:=aH D.im;have h2:=hm.2;have m0:=hm.1;unfold Cp.nsq at h2;rw[<-e1,<-e2]at h2;have key:∀{a b:Rat},0<=a->0<=b->b<=a->m*m<=a*a+b*b->m/2<=a:=λ{a b} a0 b0 hb h=>by refine xG a0 ?_;have:=oX b0 hb;have:=bU m0 m0;grind
 rcases(Rat.le_total:D.re.abs<=D.im.abs\/D.im.abs<=D.re.abs) with h|h;· exact⟨_,h,R9,.inr rfl,key n2 n1 h (by grind),hr.im⟩
 ·exact⟨_,R9,h,.inl rfl,key n1 n2 h h2,hr.re⟩
theorem uF(q:Int):2*(2:Rat)^q=(2:Rat)^(q+1):=(bAd q).symm
theorem bC4{R:Type}(w:Nat)(k:KNO R):kO R w k=k (wV w):=rfl
theorem bIa{w:Nat}{x y:Rat}(h:Is w x)(g:Is w y):x=y:=by obtain⟨_,s,m,i,h1,rfl⟩:=h;obtain⟨_,s',m',i',g1,rfl⟩:=g;rw[h1]at g1;cases g1;rfl
theorem aXk{a b c d:Nat}{D:Cp}(ha:Is a 0)(hb:Is b 0)(hD:IsZ c d D){m r:Rat}(hm:Ng D m)(hr:Nm D r)(m1:(2:Rat)^(-299:Int)<=m)(r1:r<=(2:Rat)^(300:Int)):
  ∃p q,IsZ p q Cp.zero/\∀(R:Type)(k:KNN R),rN R a b c d k=k p q:=by
 obtain⟨W,w1,w2,w3,w4,w5⟩:=aBg hm hr;obtain⟨D1,D2⟩:=hD;have mm:=uF (-300);rw[show(-300+1:Int)=-299 by decide]at mm;have p3:=bG (-300);obtain⟨x,y,U,V,i1,i2,d1,d2,run⟩:=aLs (u:=0) (v:=0) (M:=(2:Rat)^(-300:Int)) ha hb D1 D2 w1 w2 w3 (by grind) (by grind) (by rw[fO];grind) (by rw[fO];grind) R9 (cY (by decide)) (by grind) (by grind);refine⟨x,y,?_,run⟩;have hrun:=run (Nat×Nat) λa b=>some (a,b)
 have step:∀{e f g h w:Nat}{z:Rat},fbF .quo g h=some w->Is g 0->Is w z->(∃T,Is h T)->z=0:=λ{e f g h w z} hq hg hw hT=>by
  obtain⟨T,hT⟩:=hT;by_cases h0:T=0;· subst h0;exact(bFr hT hq hw).elim
  ·obtain⟨r',z',q1,q2,q3⟩:=tU hg hT h0 (by rw[show(0:Rat)/T=0 by rw[Rat.div_def];grind,fO];exact bG _);rw[hq]at q1;cases q1;have:=q3.rep 0 0 (by decide) (by decide) (by rw[Rat.div_def];simp);rw[show z=z' from bIa hw q2,this,Rat.div_def];grind
 have zadd:∀{g h w:Nat}{z:Rat},fbF .add g h=some w->Is g 0->Is h 0->Is w 0:=λ{g h w z} hq hg hh=>by obtain⟨c',C,q1,q2,q3,q4,q5⟩:=bD1 hg hh (by rw[fO,Rat.add_zero];exact bN (bG 200));rw[hq]at q1;cases q1;rwa[q4 (by grind)]at q2
 have zsub:∀{g h w:Nat}{z:Rat},fbF .sub g h=some w->Is g 0->Is h 0->Is w 0:=λ{g h w z} hq hg hh=>by obtain⟨c',C,q1,q2,q3⟩:=qD hg hh (by rw[show(0:Rat)-0=0 by grind,fO];exact bG _);rw[hq]at q1;cases q1;have:=aAp q3 (by grind);rwa[this]at q2
 have zmul:∀{g h w:Nat}{H:Rat},fbF .mul g h=some w->Is g 0->Is h H->Is w 0:=λ{g h w H} hq hg hh=>by obtain⟨c',C,q1,q2,q3,q4⟩:=jT hg hh (by rw[fO,Rat.zero_mul];exact bN (bG 200));rw[hq]at q1;cases q1;rwa[q4 (.inl rfl)]at q2
 have key:∀{r s:Nat}{X Y:Rat},Is r X->Is s Y->X≠0->Y.abs<=X.abs->X.abs<=(2:Rat)^(300:Int)->∀{h sh t n1 n2 qh ph:Nat},fbF .quo s r=some h->fbF .mul s h=some sh->(fbF .add r sh=some t\/fbF .add sh r=some t)->(∃H,Is h H)/\∃T,Is t T:=λ{r s X Y} hX hY h0 hle hb {h sh t n1 n2 qh ph} e1 e2 e3=>by
  have q:(Y/X).abs<=1:=tQ h0 (by rw[Rat.one_mul];exact hle);obtain⟨h',H,g1,g2,g3⟩:=tU hY hX h0 (by have:=cY (show(1:Int)<=1022 by decide);rw[aS7]at this;grind);rw[e1]at g1;cases g1;have H2:H.abs<=2:=by have:=g3.fine;have:=aL (H-Y/X) (Y/X);rw[show H-Y/X+Y/X=H by grind]at this;have el:=aB7;have ts:=pT;have ep:=bI;have:=cG q (show 0<=eps/2 by grind);grind
  have big:Y.abs*H.abs<=(2:Rat)^(301:Int):=by have:=aC (cR hle hb) H2 (aH H) (bN (bG 300));have e:=uF 300;rw[show(300+1:Int)=301 by decide]at e;grind
  obtain⟨sh',S,k1,k2,k3⟩:=kH hY g2 (by rw[bD];have:=fA 302;rw[show(302-1:Int)=301 by decide]at this;have:=bG 301;have:=cY (show(302:Int)<=1023 by decide);grind);rw[e2]at k1;cases k1;have S2:S.abs<=(2:Rat)^(302:Int):=by have:=k3.fine;rw[bD]at this;have:=aL (S-Y*H) (Y*H);rw[show S-Y*H+Y*H=S by grind,bD]at this;have el:=aB7;have ts:=pT;have ep:=bI;have:=aC big (show eps/4<=1/2 by grind) (by grind) (bN (bG 301));have e:=uF 301;rw[show(301+1:Int)=302 by decide]at e;have:=aFb 301;grind
  have sm:(X+S).abs<(2:Rat)^(1023:Int):=by have:=aL X S;have g1:=cY (show(300:Int)<=302 by decide);have e:=uF 302;rw[show(302+1:Int)=303 by decide]at e;have:=fA 304;rw[show(304-1:Int)=303 by decide]at this;have:=bG 303;have:=cY (show(304:Int)<=1023 by decide);grind
  refine⟨⟨H,g2⟩,?_⟩;rcases e3 with e3|e3;· obtain⟨t',T,m1,m2,m3⟩:=mJ hX k2 sm;rw[e3]at m1;cases m1;exact⟨T,m2⟩
  ·obtain⟨t',T,m1,m2,m3⟩:=mJ k2 hX (by rw[Rat.add_comm];exact sm);rw[e3]at m1;cases m1;exact⟨T,m2⟩
 have Wp:0<W:=by have:=bG (-300);grind
 change bXf kO _ a b c d _=_ at hrun;unfold bXf at hrun;simp only[bC4,aJ]at hrun;have hge:geF (wV c) (wV d)=decide (D.im.abs<=D.re.abs):=tB (kW D1) (kW D2);rw[hge]at hrun;by_cases hc:D.im.abs<=D.re.abs
 ·rw[D7 hc]at hrun;simp only at hrun;obtain⟨h,o1,hrun⟩:=lK hrun;obtain⟨sh,o2,hrun⟩:=lK hrun;obtain⟨t,o3,hrun⟩:=lK hrun;obtain⟨qh,o4,hrun⟩:=lK hrun;obtain⟨n1,o5,hrun⟩:=lK hrun;obtain⟨re,o6,hrun⟩:=lK hrun;obtain⟨ph,o7,hrun⟩:=lK hrun;obtain⟨n2,o8,hrun⟩:=lK hrun;obtain⟨im,o9,hrun⟩:=lK hrun;simp only[Option.some.injEq,Prod.mk.injEq]at hrun;obtain⟨rfl,rfl⟩:=hrun;have X0:D.re≠0:=λe=>by rw[e,fO]at hc w3;have:=aH D.im;rcases w3 with w3|w3<;>grind
  obtain⟨⟨H,hH⟩,hT⟩:=key (n1:=0) (n2:=0) (qh:=0) (ph:=0) D1 D2 X0 hc (by grind) o1 o2 (.inl o3);have q1:=zmul o4 hb hH;have q2:=zadd (z:=0) o5 ha q1;have q3:=zmul o7 ha hH;have q4:=zsub (z:=0) o8 hb q3;have u0:=step (e:=0) (f:=0) o6 q2 i1 hT;have v0:=step (e:=0) (f:=0) o9 q4 i2 hT;subst u0 v0;exact⟨i1,i2⟩
 ·rw[E7 hc]at hrun;simp only at hrun;obtain⟨h,o1,hrun⟩:=lK hrun;obtain⟨sh,o2,hrun⟩:=lK hrun;obtain⟨t,o3,hrun⟩:=lK hrun;obtain⟨qh,o4,hrun⟩:=lK hrun;obtain⟨n1,o5,hrun⟩:=lK hrun;obtain⟨re,o6,hrun⟩:=lK hrun;obtain⟨ph,o7,hrun⟩:=lK hrun;obtain⟨n2,o8,hrun⟩:=lK hrun;obtain⟨im,o9,hrun⟩:=lK hrun;simp only[Option.some.injEq,Prod.mk.injEq]at hrun;obtain⟨rfl,rfl⟩:=hrun;have hc':D.re.abs<=D.im.abs:=by grind
  have X0:D.im≠0:=λe=>by rw[e,fO]at hc';have:=aH D.re;grind
  obtain⟨⟨H,hH⟩,hT⟩:=key (n1:=0) (n2:=0) (qh:=0) (ph:=0) D2 D1 X0 hc' (by grind) o1 o2 (.inr o3);have q1:=zmul o4 ha hH;have q2:=zadd (z:=0) o5 q1 hb;have q3:=zmul o7 hb hH;have q4:=zsub (z:=0) o8 q3 ha;have u0:=step (e:=0) (f:=0) o6 q2 i1 hT;have v0:=step (e:=0) (f:=0) o9 q4 i2 hT;subst u0 v0;exact⟨i1,i2⟩
theorem aIr{a b c d:Nat}{P D:Cp}(hP:IsZ a b P)(hD:IsZ c d D){m r:Rat}(hm:Ng D m)(hr:Nm D r)(m1:(2:Rat)^(-299:Int)<=m)(r1:r<=(2:Rat)^(300:Int)){mq rq:Rat}(h:P=Cp.zero\/(Ng (P*D.inv) mq/\Nm (P*D.inv) rq/\(2:Rat)^(-300:Int)<=mq/\rq<=(2:Rat)^(299:Int))):
  ∃p q Q,IsZ p q Q/\Rl Q (P*D.inv) (64*eps)/\∀(R:Type)(k:KNN R),rN R a b c d k=k p q:=by
 have ep:=bI;have p3:=bG (-299);have hn:=vF hm (by grind);rcases h with h|⟨h1,h2,h3,h4⟩;· subst h;obtain⟨p,q,g1,g2⟩:=aXk hP.1 hP.2 hD hm hr m1 r1;exact⟨p,q,Cp.zero,g1,by rw[Cp.zero_mul];exact Rl.refl _ (by grind),g2⟩
 ·obtain⟨W,w1,w2,w3,w4,w5⟩:=aBg hm hr;have mm:=uF (-300);rw[show(-300+1:Int)=-299 by decide]at mm;have mm2:=uF 299;rw[show(299+1:Int)=300 by decide]at mm2;have eP:=bM0 (P:=P) hn;generalize hQ:P*D.inv=Q at *
  have eu:=congrArg Cp.re eP;have ev:=congrArg Cp.im eP;rw[Cp.mul_re]at eu;rw[Cp.mul_im]at ev;have n1:=aH Q.re;have n2:=aH Q.im;have q1:=oL Q.re;have q2:=oL Q.im;have low:mq<=Q.re.abs+Q.im.abs:=by refine xG (by grind) ?_;have:=h1.2;unfold Cp.nsq at this;have:=bU n1 n2;grind
  have up:=h2.re;have up2:=h2.im;obtain⟨x,y,U,V,i1,i2,d1,d2,run⟩:=aLs (u:=Q.re) (v:=Q.im) (M:=Q.re.abs+Q.im.abs) hP.1 hP.2 hD.1 hD.2 w1 w2 w3 (by grind) (by grind) (by grind) (by grind) (by grind) (by grind) (by grind) (by grind);refine⟨x,y,⟨U,V⟩,⟨i1,i2⟩,?_,run⟩;have Qn:Q.nsq≠0:=vF h1 (by have:=bG (-300);grind);refine aKg (by grind) Qn ?_;have b1:=aC d1 d1 (aH _) (cR (aH _) d1);have b2:=aC d2 d2 (aH _) (cR (aH _) d2);rw[oL]at b1 b2;have en:((⟨U,V⟩:Cp)-Q).nsq=(U-Q.re)*(U-Q.re)+(V-Q.im)*(V-Q.im):=rfl;rw[en];have s1:(Q.re.abs+Q.im.abs)*(Q.re.abs+Q.im.abs)<=2*Q.nsq:=by have:=aT (Q.re.abs-Q.im.abs);unfold Cp.nsq;grind
  have:=dI s1 (bU (bN ep) (bN ep));grind
def csm(f:Nat->Cp):Nat->Cp
 |0=>Cp.zero
 |n+1=>csm f n+f n
theorem cA{f g:Nat->Cp}:∀{n:Nat},(∀k,k<n->f k=g k)->csm f n=csm g n
 |0,_=>rfl
 |n+1,h=>by simp only[csm];rw[cA (n:=n) λk hk=>h k (by omega),h n (by omega)]
theorem oN(f g:Nat->Cp):∀n,csm (λk=>f k+g k) n=csm f n+csm g n
 |0=>by simp only[csm];rw[Cp.zero_add]
 |n+1=>by simp only[csm];rw[oN f g n];exact Cp.ext' (by simp only[Cp.add_re];grind) (by simp only[Cp.add_im];grind)
theorem lR(a:Cp)(f:Nat->Cp):∀n,csm (λk=>a*f k) n=a*csm f n
 |0=>by simp only[csm];rw[Cp.mul_zero]
 |n+1=>by simp only[csm];rw[lR a f n,Cp.mul_add]
theorem tJ(f g:Nat->Cp):∀n,csm (λk=>f k-g k) n=csm f n-csm g n
 |0=>by simp only[csm];rw[Cp.sub_self]
 |n+1=>by simp only[csm];rw[tJ f g n];exact Cp.ext' (by simp only[Cp.add_re,Cp.sub_re];grind) (by simp only[Cp.add_im,Cp.sub_im];grind)
theorem aOe:∀n:Nat,csm (λ_=>Cp.one) n=Cp.of (n:Rat)
 |0=>rfl
 |n+1=>by simp only[csm];rw[aOe n];push_cast;exact Cp.ext' (by simp only[Cp.add_re,Cp.of_re,Cp.one_re]) (by simp only[Cp.add_im,Cp.of_im,Cp.one_im];grind)
theorem aHh{f:Nat->Cp}{r:Rat}:∀{n:Nat},(∀k,k<n->Nm (f k) r)->Nm (csm f n) ((n:Rat)*r)
 |0,_=>by have:=jM;simpa[csm] using this
 |n+1,h=>by have h1:=(aHh (n:=n) λk hk=>h k (by omega)).add (h n (by omega));simp only[csm];refine h1.mono ?_;push_cast;grind
inductive Fc where
 |geo (b:Cp) (q:Rat)
 |lin (a:Cp) (q:Rat)
def Fc.at(f:Fc)(x:Cp):Cp:=match f with
 |.geo b _=>(Cp.one-b*x).inv
 |.lin a _=>x-a
def Fc.w(f:Fc):Rat:=match f with
 |.geo _ q=>(1-q)⁻¹
 |.lin _ q=>1+q
def Fc.cnt(f:Fc):Nat:=match f with
 |.geo _ _=>2
 |.lin _ _=>1
def Fc.kap(f:Fc):Rat:=match f with
 |.geo _ _=>9/4
 |.lin _ _=>3/2
def Fc.Ok(ρ:Rat)(f:Fc):Prop:=match f with
 |.geo b q=>∃r,Nm b r/\r*ρ<=q/\q<=21/40
 |.lin a q=>∃r,Nm a r/\r+(ρ-1)<=q
def cC:List Fc->Cp->Cp
 |[],_=>Cp.one
 |f::L,x=>f.at x*cC L x
def wL:List Fc->Rat
 |[]=>1
 |f::L=>f.w*wL L
def rM:List Fc->Nat
 |[]=>0
 |f::L=>f.cnt+rM L
def wG:List Fc->Rat
 |[]=>1
 |f::L=>f.kap*wG L
def OkL(ρ:Rat)(L:List Fc):Prop:=∀f∈L,f.Ok ρ
theorem aAf{ρ:Rat}{f:Fc}{L:List Fc}(h:OkL ρ (f::L)):f.Ok ρ/\OkL ρ L:=⟨h f (by simp),λg hg=>h g (by simp[hg])⟩
section
variable{ρ:Rat}(hρ:1<=ρ)
include hρ
theorem aEg{b x:Cp}{q:Rat}(h:(Fc.geo b q).Ok ρ)(hx:Nm x ρ):0<=q/\(Cp.one-b*x).nsq≠0/\Nm ((Cp.one-b*x).inv) ((1-q)⁻¹)/\0<1-q/\Nm b q:=by
 obtain⟨r,h1,h2,h3⟩:=h;have r0:=h1.1;have q0:0<=q:=cR (bU r0 hx.1) h2;have n1:=(h1.mul hx).mono h2;have g1:Ng (Cp.one+-(b*x)) (1-q):=oG (r:=1) ⟨by decide,by unfold Cp.nsq;simp only[Cp.one_re,Cp.one_im];grind⟩ n1.neg (by grind);rw[<-Cp.sub_eq]at g1;have p0:0<1-q:=by grind
 have p1:=Rat.mul_pos p0 p0;have hn:(Cp.one-b*x).nsq≠0:=λe=>by have:=g1.2;rw[e]at this;grind
 refine⟨q0,hn,⟨bN (Rat.inv_pos.2 p0),?_⟩,p0,h1.mono ?_⟩
 ·have e:=congrArg Cp.nsq (Cp.inv_mul hn);rw[Cp.nsq_mul,show Cp.one.nsq=1 by unfold Cp.nsq;simp only[Cp.one_re,Cp.one_im];grind]at e;have i0:=Cp.nsq_nonneg ((Cp.one-b*x).inv);have e2:=Rat.mul_inv_cancel (1-q) (by grind);have g2:=g1.2;generalize (Cp.one-b*x).nsq=A at *
  generalize ((Cp.one-b*x).inv).nsq=B at *
  generalize (1-q)⁻¹=C at *
  generalize 1-q=D at *
  have k1:=cG g2 i0;rw[e]at k1;have k2:=dI k1 (aT C);have:C*C*(D*D*B)=B:=by
   have:C*C*(D*D*B)=(D*C)*(D*C)*B:=by grind
   rw[this,e2];grind
  grind
 ·have:=dI hρ r0;grind
theorem aR0{b x:Cp}{q:Rat}(h:(Fc.geo b q).Ok ρ)(hx:Nm x ρ):(Fc.geo b q).at x=Cp.one+b*(x*(Fc.geo b q).at x):=by
 have e:=Cp.inv_mul (aEg hρ h hx).2.1;show(Cp.one-b*x).inv=Cp.one+b*(x*(Cp.one-b*x).inv);generalize (Cp.one-b*x).inv=u at *
 rw[<-e,Cp.sub_mul,Cp.one_mul,Cp.mul_assoc];exact Cp.ext' (by simp only[Cp.add_re,Cp.sub_re];grind) (by simp only[Cp.add_im,Cp.sub_im];grind)
theorem bSf{f:Fc}{x:Cp}(h:f.Ok ρ)(hx:Nm x ρ):Nm (f.at x) f.w/\1<=f.w:=by
 cases f with
 |geo b q=>obtain⟨h1,h2,h3,h4,h5⟩:=aEg hρ h hx;refine⟨h3,?_⟩;have e:=Rat.mul_inv_cancel (1-q) (by grind);have:=cG (show 1-q<=1 by grind) h3.1;show 1<=(1-q)⁻¹;grind
 |lin a q=>obtain⟨r,h1,h2⟩:=h;have:=h1.1;exact⟨(hx.sub h1).mono (show ρ+r<=1+q by grind),show 1<=1+q by grind⟩
theorem gH{L:List Fc}{x:Cp}(h:OkL ρ L)(hx:Nm x ρ):Nm (cC L x) (wL L)/\1<=wL L:=by
 induction L with
 |nil=>exact⟨aHi,R9⟩
 |cons f L ih=>obtain⟨h1,h2⟩:=aAf h;obtain⟨i1,i2⟩:=ih h2;obtain⟨f1,f2⟩:=bSf hρ h1 hx;refine⟨f1.mul i1,?_⟩;have:=aC f2 i2 (by decide) (cR (by decide) f2);show 1<=f.w*wL L;grind
end
def th(m:Nat):Rat:=(3/2)^m/(3/2)^128
theorem aKo(m:Nat):th (m+1)=3/2*th m:=by unfold th;rw[Rat.pow_succ,Rat.div_def,Rat.div_def];grind
theorem qE(m:Nat):0<=th m:=by unfold th;rw[Rat.div_def];exact bU (Rat.pow_nonneg (by grind)) (bN (Rat.inv_pos.2 (Rat.pow_pos (by grind))))
theorem bVv:th 128=1:=by decide +kernel
theorem bVx:∀j,th (128+j)=(3/2)^j
 |0=>by rw[Nat.add_zero,bVv,Rat.pow_zero]
 |j+1=>by rw[<-Nat.add_assoc,aKo,bVx j,Rat.pow_succ];grind
theorem uY(L:List Fc):1<=wG L:=by
 induction L with
 |nil=>exact R9
 |cons f L ih=>
  have hf:1<=f.kap:=by cases f<;>(unfold Fc.kap;simp only;grind)
  have:=aC hf ih (by decide) (cR (by decide) hf);show 1<=f.kap*wG L;grind
theorem vI{a b:Rat}(h0:0<=a)(h:a<=b):∀n:Nat,a^n<=b^n
 |0=>by rw[Rat.pow_zero,Rat.pow_zero];exact R9
 |n+1=>by rw[Rat.pow_succ,Rat.pow_succ];exact aC (vI h0 h n) h h0 (Rat.pow_nonneg (cR h0 h))
theorem pow_add(a:Rat)(m:Nat):∀n:Nat,a^(m+n)=a^m*a^n
 |0=>by rw[Nat.add_zero,Rat.pow_zero,Rat.mul_one]
 |n+1=>by rw[<-Nat.add_assoc,Rat.pow_succ,pow_add a m n,Rat.pow_succ];grind
structure Pts(ρ σ:Rat)(n:Nat)(x:Nat->Cp):Prop where
 one:1<=ρ
 half:ρ<=3/2
 big:ρ^128<=2
 sig:0<=σ
 at_:∀k,k<n->Nm (x k) ρ
 sum:∀m,1<=m->m<=127->Nm (csm (λk=>(x k).pw m) n) ((n:Rat)*(σ*(m:Rat)))
def eL(σ:Rat)(m:Nat)(L:List Fc):Rat:=σ*((m+rM L:Nat):Rat)+2*wG L*th m
section
variable{ρ σ:Rat}{n:Nat}{x:Nat->Cp}(hx:Pts ρ σ n x)
include hx
theorem bUy{m:Nat}(hm:128<=m){k:Nat}(hk:k<n):Nm ((x k).pw m) (2*th m):=by refine(xV (hx.at_ k hk) m).mono ?_;obtain⟨j,rfl⟩:∃j,m=128+j:=⟨m-128,by omega⟩;rw[bVx,pow_add];exact aC hx.big (vI (cR (by decide) hx.one) hx.half j) (Rat.pow_nonneg (cR (by decide) hx.one)) (by decide)
theorem aXz{L:List Fc}(hL:OkL ρ L){m:Nat}(hm:128<=m):Nm (csm (λk=>(x k).pw m*cC L (x k)) n) ((n:Rat)*(wL L*eL σ m L)):=by
 refine aHh λk hk=>?_
 obtain⟨p1,p2⟩:=gH hx.one hL (hx.at_ k hk);refine((bUy hx hm hk).mul p1).mono ?_;unfold eL;have t0:=qE m;have k1:=uY L;have s0:0<=σ*((m+rM L:Nat):Rat):=bU hx.sig (by exact_mod_cast Nat.zero_le _);have q1:=cG k1 t0;have q2:=dI (show 2*th m<=σ*((m+rM L:Nat):Rat)+2*wG L*th m by grind) (cR (by decide) p2);grind
theorem aI7{b:Cp}{q:Rat}{L:List Fc}(h:OkL ρ (.geo b q::L))(hn:0<n):∃r,Nm b r/\0<=r/\r<=q/\q<=21/40/\wL L=(1-q)*wL (.geo b q::L)/\1<=wL L/\0<1-q:=by
 obtain⟨h1,h2⟩:=aAf h;obtain⟨g1,g2,g3,g4,g5⟩:=aEg hx.one h1 (hx.at_ 0 hn);obtain⟨r,r1,r2,r3⟩:=h1;have e:=Rat.mul_inv_cancel (1-q) (by grind);refine⟨r,r1,r1.1,?_,r3,?_,(gH hx.one h2 (hx.at_ 0 hn)).2,g4⟩;· have:=dI hx.one r1.1;grind
 ·show wL L=(1-q)*((1-q)⁻¹*wL L);rw[<-Rat.mul_assoc,e,Rat.one_mul]
theorem tD(hn:0<n):∀(L:List Fc),OkL ρ L->∀m,1<=m->Nm (csm (λk=>(x k).pw m*cC L (x k)) n) ((n:Rat)*(wL L*eL σ m L)):=by
 have n0:(0:Rat)<=(n:Rat):=by exact_mod_cast Nat.zero_le n
 intro L;induction L with
 |nil=>
  intro hL m h1;rcases Nat.lt_or_ge m 128 with hm|hm
  ·have e:csm (λk=>(x k).pw m*cC [] (x k)) n=csm (λk=>(x k).pw m) n:=cA λk _=>by show(x k).pw m*Cp.one=_;rw[Cp.mul_one]
   rw[e];refine(hx.sum m h1 (by omega)).mono (dI ?_ n0);unfold eL wL wG rM;rw[Nat.add_zero];have:=qE m;grind
  ·exact aXz hx hL hm
 |cons f L ih=>
  intro hL;obtain⟨h1,h2⟩:=aAf hL;have ih:=ih h2;cases f with
  |lin a q=>
   intro m hm;obtain⟨r,r1,r2⟩:=h1;have w1:=(gH hx.one h2 (hx.at_ 0 hn)).2;have e:csm (λk=>(x k).pw m*cC (.lin a q::L) (x k)) n=csm (λk=>(x k).pw (m+1)*cC L (x k)) n-a*csm (λk=>(x k).pw m*cC L (x k)) n:=by
    rw[<-lR,<-tJ];refine cA λk _=>?_
    show(x k).pw m*((x k-a)*cC L (x k))=(x k).pw m*x k*cC L (x k)-a*((x k).pw m*cC L (x k));rw[Cp.sub_mul,Cp.mul_sub,Cp.mul_assoc,Cp.mul_left_comm ((x k).pw m) a]
   rw[e];refine((ih (m+1) (by omega)).sub (r1.mul (ih m hm))).mono ?_;unfold eL;show _<=(n:Rat)*((1+q)*wL L*(σ*((m+(1+rM L):Nat):Rat)+2*(3/2*wG L)*th m));rw[aKo];have k1:=uY L;have t0:=qE m;have hρ:=hx.one;have hr:r<=q:=by grind
   have s1:=bU hx.sig (show(0:Rat)<=((m+rM L:Nat):Rat) by exact_mod_cast Nat.zero_le _);have c1:((m+1+rM L:Nat):Rat)=((m+rM L:Nat):Rat)+1:=by push_cast;grind
   have c2:((m+(1+rM L):Nat):Rat)=((m+rM L:Nat):Rat)+1:=by push_cast;grind
   rw[c1,c2];have s0:=hx.sig;have kt:=bU (cR (by decide) k1) t0;have w0:0<=wL L:=cR (by decide) w1;generalize ((m+rM L:Nat):Rat)=c at *
   generalize wG L=kk at *
   have a1:=cG hr (bU n0 (bU w0 (show 0<=σ*(c+1)+2*kk*(3/2*th m) by grind)));have a2:=bU r1.1 (bU n0 (bU w0 (show 0<=σ*(c+1)+2*kk*(3/2*th m)-(σ*c+2*kk*th m) by grind)));grind
  |geo b q=>
   obtain⟨r,r1,r0,r2,r3,w1,w2,q1⟩:=aI7 hx hL hn;suffices key:∀j m,1<=m->128<=m+j->Nm (csm (λk=>(x k).pw m*cC (.geo b q::L) (x k)) n) ((n:Rat)*(wL (.geo b q::L)*eL σ m (.geo b q::L))) from λm hm=>key 128 m hm (by omega)
   intro j;induction j with
   |zero=>exact λm _ hj=>aXz hx hL (by omega)
   |succ j jh=>
    intro m hm hj;have e:csm (λk=>(x k).pw m*cC (.geo b q::L) (x k)) n=csm (λk=>(x k).pw m*cC L (x k)) n+b*csm (λk=>(x k).pw (m+1)*cC (.geo b q::L) (x k)) n:=by
     rw[<-lR,<-oN];refine cA λk hk=>?_
     show(x k).pw m*((Fc.geo b q).at (x k)*cC L (x k))=(x k).pw m*cC L (x k)+b*((x k).pw m*x k*((Fc.geo b q).at (x k)*cC L (x k)));have g:=aR0 hx.one h1 (hx.at_ k hk);generalize (Fc.geo b q).at (x k)=u at *
     have:u*cC L (x k)=cC L (x k)+b*(x k*(u*cC L (x k))):=by
      rw[<-Cp.mul_assoc (x k),<-Cp.mul_assoc b]
      conv=>lhs;rw[g]
      rw[Cp.add_mul,Cp.one_mul]
     rw[Cp.mul_assoc ((x k).pw m) (x k),Cp.mul_left_comm b,<-Cp.mul_add,<-this]
    rw[e];refine((ih m hm).add (r1.mul (jh (m+1) (by omega) (by omega)))).mono ?_;rw[w1];unfold eL;have W0:0<=wL (.geo b q::L):=by have:=(gH hx.one hL (hx.at_ 0 hn)).2;grind
    show(n:Rat)*((1-q)*wL (.geo b q::L)*(σ*((m+rM L:Nat):Rat)+2*wG L*th m))+r*((n:Rat)*(wL (.geo b q::L)*(σ*((m+1+(2+rM L):Nat):Rat)+2*(9/4*wG L)*th (m+1))))<=(n:Rat)*(wL (.geo b q::L)*(σ*((m+(2+rM L):Nat):Rat)+2*(9/4*wG L)*th m));rw[aKo];have c1:((m+1+(2+rM L):Nat):Rat)=((m+rM L:Nat):Rat)+3:=by push_cast;grind
    have c2:((m+(2+rM L):Nat):Rat)=((m+rM L:Nat):Rat)+2:=by push_cast;grind
    rw[c1,c2];have s0:=hx.sig;have k1:=uY L;have t0:=qE m;have kt:=bU (cR (by decide) k1) t0;have s1:=bU hx.sig (show(0:Rat)<=((m+rM L:Nat):Rat) by exact_mod_cast Nat.zero_le _);generalize wL (.geo b q::L)=W at *
    generalize ((m+rM L:Nat):Rat)=c at *
    generalize wG L=kk at *
    generalize th m=t at *
    have nW:=bU n0 W0;have X0:0<=σ*(c+3)+2*(9/4*kk)*(3/2*t):=by grind
    have a1:=cG r2 (bU nW X0);have b1:=cG r3 s0;have b2:=cG r3 kt;have fin:(1-q)*(σ*c+2*kk*t)+q*(σ*(c+3)+2*(9/4*kk)*(3/2*t))<=σ*(c+2)+2*(9/4*kk)*t:=by grind
    have a2:=dI fin nW;grind
end
end Go.Vx
