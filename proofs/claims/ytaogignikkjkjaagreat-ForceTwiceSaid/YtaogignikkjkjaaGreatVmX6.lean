/- A part; no conditions. -/
import Derived.Test.YtaogignikkjkjaaGreatVmX0
set_option maxRecDepth 1000000
set_option maxHeartbeats 1000000
set_option linter.all false
open Nat renaming le_refl->L9
namespace Go.Vx
open Go.Vm
theorem yR{z:Cp}{m:Rat}(h:Ng z m):∀n,Ng (z.pw n) (m^n)
 |0=>by rw[Rat.pow_zero];exact⟨by decide,by show 1*1<=Cp.one.nsq;unfold Cp.nsq;simp only[Cp.one_re,Cp.one_im];grind⟩
 |n+1=>by rw[Rat.pow_succ];exact(yR h n).mul h
theorem aSv{e:Cp}{δ:Rat}(h:Nm e δ)(hd:δ<=1):Ng (Cp.one+e) (1-δ):=
 oG (r:=1) ⟨by decide,by unfold Cp.nsq;simp only[Cp.one_re,Cp.one_im];grind⟩ h hd
theorem Rl.ng{z Z:Cp}{δ m:Rat}(h:Rl z Z δ)(g:Ng Z m)(hd:δ<=1/2):Ng z (m/2):=by obtain⟨e,e1,rfl⟩:=h;have:=(g.mul (aSv e1 (by grind)));refine this.mono (by have:=g.1;grind) ?_;have:=dI (show(1:Rat)/2<=1-δ by grind) g.1;grind
theorem Rl.nm{z Z:Cp}{δ m:Rat}(h:Rl z Z δ)(g:Nm Z m)(hd:δ<=1):Nm z (2*m):=by obtain⟨e,e1,rfl⟩:=h;have:=g.mul (aHi.add e1);refine this.mono ?_;have:=dI (show 1+δ<=2 by grind) g.1;grind
theorem uD(f:Rat)(A:Cp):(Cp.of f*A).nsq=f*f*A.nsq:=by rw[Cp.nsq_mul];unfold Cp.nsq;simp only[Cp.of_re,Cp.of_im];grind
theorem aTu{a b c:Nat}{A:Cp}{F:Rat}(hA:IsZ a b A)(hF:Is c F){r m:Rat}(rA:Nm A r)(big:r*F.abs<=iG)(h0:A=Cp.zero\/(Ng (Cp.of F*A) m/\4*tn<=1/1000*eps*m)):
  ∃p q P,IsZ p q P/\Rl P (Cp.of F*A) eps/\∀(R:Type)(k:KNN R),eQ R a b c k=k p q:=by
 have ep:=bI;have t0:=aCr;obtain⟨a1,a2⟩:=aFq rA;have bd:∀{u:Rat},u.abs<=r->u.abs*F.abs<=iG:=λh=>cR (cG h (aH F)) big
 obtain⟨x1,X1,f1,i1,e1,z1⟩:=jT hA.1 hF (bd a1);obtain⟨x2,X2,f2,i2,e2,z2⟩:=jT hA.2 hF (bd a2);refine⟨x1,x2,⟨X1,X2⟩,⟨i1,i2⟩,?_,λR k=>by unfold eQ;rw[aK f1,aK f2]⟩;rcases h0 with h0|⟨hm,htn⟩;· have q1:=z1 (.inl (by rw[h0];rfl));have q2:=z2 (.inl (by rw[h0];rfl));rw[h0,Cp.mul_zero,show(⟨X1,X2⟩:Cp)=Cp.zero from Cp.ext' q1 q2];exact Rl.refl _ (bN ep)
 ·have mpos:0<m:=by
   refine Rat.not_le.1 λhl=>?_
   have:=bU (show(0:Rat)<=1/1000*eps by grind) (show 0<=-m by grind);grind
  refine aKg (bN ep) (vF hm mpos) ?_;have k:∀{X u:Rat},(X-u*F).abs<=eps/4*(u.abs*F.abs)+tn->u*u*(F*F)<=(Cp.of F*A).nsq->(X-u*F)*(X-u*F)<=26/100*(eps*eps)*(Cp.of F*A).nsq:=λ{X u} h hN=>by
   refine aFu (X:=u.abs*F.abs) (m:=m) ?_ (bU (aH _) (aH _)) hm.1 htn ?_ hm.2;· have:=bU (bN ep) (bU (aH u) (aH F));grind
   ·have e1:=oL u;have e2:=oL F;have:u.abs*F.abs*(u.abs*F.abs)=u*u*(F*F):=by rw[<-e1,<-e2];grind
    grind
  have n1:=bU (aT A.re) (aT F);have n2:=bU (aT A.im) (aT F);have eN:=uD F A;have eA:A.nsq=A.re*A.re+A.im*A.im:=rfl;have k1:=k e1 (by rw[eN,eA];grind);have k2:=k e2 (by rw[eN,eA];grind);have en:((⟨X1,X2⟩:Cp)-Cp.of F*A).nsq=(X1-A.re*F)*(X1-A.re*F)+(X2-A.im*F)*(X2-A.im*F):=by unfold Cp.nsq;simp only[Cp.sub_re,Cp.sub_im,Cp.mul_re,Cp.mul_im,Cp.of_re,Cp.of_im];grind
  rw[en];have:=bU (bU (bN ep) (bN ep)) (Cp.of F*A).nsq_nonneg;grind
def cE(j:Nat):Rat:=(j:Rat)*(1001/1000*eps)
theorem bR:eps<=1/1000000000000000:=by rw[oP];grind
theorem aTd{a b c d:Nat}{A B D:Cp}{i j:Nat}(hi:1<=i)(hj:1<=j)(hij:i+j<=16)(hA:IsZ a b A)(hB:IsZ c d B){m r:Rat}(hm:Ng D m)(hr:Nm D r)(big:64*(r^i*r^j)+1<=iG)(htn:16*tn<=1/1000*eps*m^(i+j))(rA:Rl A (D.pw i) (cE (i-1)))(rB:Rl B (D.pw j) (cE (j-1))):
  ∃p q P,IsZ p q P/\Rl P (D.pw (i+j)) (cE (i+j-1))/\∀(R:Type)(k:KNN R),dV R a b c d k=k p q:=by
 have ep:=bI;have et:=bR;have ci:((i-1:Nat):Rat)<=16:=by exact_mod_cast (show i-1<=16 by omega)
 have cj:((j-1:Nat):Rat)<=16:=by exact_mod_cast (show j-1<=16 by omega)
 have ni:(0:Rat)<=((i-1:Nat):Rat):=by exact_mod_cast Nat.zero_le _
 have nj:(0:Rat)<=((j-1:Nat):Rat):=by exact_mod_cast Nat.zero_le _
 have e16:∀{x:Rat},0<=x->x<=16->x*(1001/1000*eps)<=1/10000000000000:=λ{x} h0 h=>by have:=cG h (show 0<=1001/1000*eps by grind);grind
 have ea:=e16 ni ci;have eb:=e16 nj cj;have nA:=rA.nm (xV hr i) (by unfold cE;grind);have nB:=rB.nm (xV hr j) (by unfold cE;grind);have gA:=rA.ng (yR hm i) (by unfold cE;grind);have gB:=rB.ng (yR hm j) (by unfold cE;grind);have gAB:=gA.mul gB;obtain⟨p,q,P,i1,r1,run⟩:=vE hA hB nA nB (by grind) (.inr (.inr ⟨gAB,by rw[show m^i/2*(m^j/2)=m^(i+j)/4 by rw[pow_add];grind];grind⟩));refine⟨p,q,P,i1,?_,run⟩;have t:=r1.trans (rA.mul rB);rw[<-Cp.pw_add]at t;refine t.mono ?_;unfold cE;have c1:((i+j-1:Nat):Rat)=((i-1:Nat):Rat)+((j-1:Nat):Rat)+1:=by rw[show i+j-1=(i-1)+(j-1)+1 by omega];push_cast;grind
 rw[c1];generalize ((i-1:Nat):Rat)=x at *
 generalize ((j-1:Nat):Rat)=y at *
 have xy:=aC ci cj nj (show(0:Rat)<=16 by decide);have ee:=cG et (bN ep);have ee0:=bU (bN ep) (bN ep);have m1:=cG xy ee0;have m2:=cG ci ee0;have m3:=cG cj ee0;have m4:=cG et ee0;have m5:=cG xy (bU (bN ep) ee0);grind
def bCy:List Bool->Nat->Nat
 |[],j=>j
 |t::ts,j=>bCy ts (j+j+t.toNat)
theorem aXw:∀(l:List Bool)(j:Nat),j<=bCy l j
 |[],j=>L9 j
 |t::ts,j=>Nat.le_trans (by omega) (aXw ts (j+j+t.toNat))
theorem pM:∀n:Nat,(1:Rat)^n=1
 |0=>Rat.pow_zero _
 |n+1=>by rw[Rat.pow_succ,pM n];grind
theorem aB2{a b:Nat}{D:Cp}(hD:IsZ a b D){m r:Rat}(hm:Ng D m)(hr:Nm D r)(r1:1<=r)(m1:m<=1){N:Nat}(hN:N<=16)(big:64*r^N+1<=iG)(htn:16*tn<=1/1000*eps*m^N):∀(l:List Bool)(j x y:Nat)(X:Cp),1<=j->bCy l j<=N->IsZ x y X->Rl X (D.pw j) (cE (j-1))->
  ∃p q P,IsZ p q P/\Rl P (D.pw (bCy l j)) (cE (bCy l j-1))/\∀(R:Type)(k:KNN R),gR dV a b l x y k=k p q:=by
 have ep:=bI;have pm:∀{j:Nat},j<=N->m^N<=m^j:=λ{j} h=>by
  obtain⟨i,rfl⟩:∃i,N=j+i:=⟨N-j,by omega⟩;rw[pow_add];have a0:0<=m^j:=Rat.pow_nonneg hm.1;have a1:m^i<=1:=by have:=vI hm.1 m1 i;rwa[show(1:Rat)^i=1 from pM i]at this
  have:=dI a1 a0;grind
 have pr:∀{j:Nat},j<=N->r^j<=r^N:=λ{j} h=>by
  obtain⟨i,rfl⟩:∃i,N=j+i:=⟨N-j,by omega⟩;rw[pow_add];have a0:0<=r^j:=Rat.pow_nonneg hr.1;have a1:1<=r^i:=by have:=vI (show(0:Rat)<=1 by decide) r1 i;rwa[show(1:Rat)^i=1 from pM i]at this
  have:=dI a1 a0;grind
 have st:∀{i j:Nat},i+j<=N->64*(r^i*r^j)+1<=iG/\16*tn<=1/1000*eps*m^(i+j):=λ{i j} h=>by have h1:=pr h;have h2:=dI (pm h) (show 0<=1/1000*eps by grind);rw[pow_add]at h1;exact⟨by grind,by grind⟩
 intro l;induction l with
 |nil=>exact λj x y X h1 h2 h3 h4=>⟨x,y,X,h3,h4,λR k=>rfl⟩
 |cons t ts ih=>
  intro j x y X h1 h2 h3 h4;have hx:=aXw ts (j+j+t.toNat);change bCy ts (j+j+t.toNat)<=N at h2;obtain⟨s1,s2⟩:=st (i:=j) (j:=j) (by omega);obtain⟨p,q,P,i1,rr,run⟩:=aTd h1 h1 (by omega) h3 h3 hm hr s1 s2 h4 h4;cases t with
  |false=>obtain⟨p',q',P',g1,g2,g3⟩:=ih (j+j+false.toNat) p q P (by omega) h2 i1 rr;exact⟨p',q',P',g1,g2,λR k=>by show dV R x y x y _=_;rw[run];exact g3 R k⟩
  |true=>change j+j+1<=bCy ts (j+j+1) at hx;change bCy ts (j+j+1)<=N at h2;obtain⟨u1,u2⟩:=st (i:=j+j) (j:=1) (by omega);obtain⟨p2,q2,P2,i2,rr2,run2⟩:=aTd (i:=j+j) (j:=1) (by omega) (L9 1) (by omega) i1 hD hm hr u1 u2 rr (by rw[Cp.pw_one];exact Rl.refl D (by unfold cE;simp));obtain⟨p',q',P',g1,g2,g3⟩:=ih (j+j+true.toNat) p2 q2 P2 (by omega) h2 i2 rr2;exact⟨p',q',P',g1,g2,λR k=>by show dV R x y x y _=_;rw[run];show dV R p q a b _=_;rw[run2];exact g3 R k⟩
theorem aF5{a b:Nat}{D:Cp}(hD:IsZ a b D){m r:Rat}(hm:Ng D m)(hr:Nm D r)(r1:1<=r)(m1:m<=1)(big:64*r^10+1<=iG)(htn:16*tn<=1/1000*eps*m^10){n:Nat}(hn:n<=10):
  ∃p q P,IsZ p q P/\Rl P (D.pw n) (11*eps)/\∀(R:Type)(k:KNN R),lL R a b (n:Int) k=k p q:=by
 have ep:=bI;have w:=aB2 hD hm hr r1 m1 (N:=10) (by decide) big htn;have fin:∀{N:Nat}{P:Cp},1<=N->N<=10->Rl P (D.pw N) (cE (N-1))->Rl P (D.pw N) (11*eps):=λ{N P} h0 h1 h=>h.mono (by
  unfold cE;have:((N-1:Nat):Rat)<=9:=by exact_mod_cast (show N-1<=9 by omega)
  have:=cG this (show 0<=1001/1000*eps by grind);grind)
 have r0:Rl D (D.pw 1) (cE (1-1)):=by rw[Cp.pw_one];exact Rl.refl D (by unfold cE;simp)
 have use:∀(l:List Bool)(N:Nat),bCy l 1=N->1<=N->N<=10->∃p q P,IsZ p q P/\Rl P (D.pw N) (11*eps)/\∀(R:Type)(k:KNN R),gR dV a b l a b k=k p q:=λl N e h0 h1=>by obtain⟨p,q,P,g1,g2,g3⟩:=w l 1 a b D (L9 1) (by omega) hD r0;rw[e]at g2;exact⟨p,q,P,g1,fin h0 h1 g2,g3⟩
 rcases(by omega:n=0\/n=1\/n=2\/n=3\/n=4\/n=5\/n=6\/n=7\/n=8\/n=9\/n=10) with rfl|rfl|rfl|rfl|rfl|rfl|rfl|rfl|rfl|rfl|rfl;· exact⟨_,0,Cp.one,⟨aMd,is0⟩,Rl.refl _ (by grind),λR k=>rfl⟩
 ·exact⟨a,b,D,hD,by rw[Cp.pw_one];exact Rl.refl _ (by grind),λR k=>rfl⟩
 ·exact use (pI 2) 2 rfl (by decide) (by decide)
 ·exact use (pI 3) 3 rfl (by decide) (by decide)
 ·exact use (pI 4) 4 rfl (by decide) (by decide)
 ·exact use (pI 5) 5 rfl (by decide) (by decide)
 ·exact use (pI 6) 6 rfl (by decide) (by decide)
 ·exact use (pI 7) 7 rfl (by decide) (by decide)
 ·exact use (pI 8) 8 rfl (by decide) (by decide)
 ·exact use (pI 9) 9 rfl (by decide) (by decide)
 ·exact use (pI 10) 10 rfl (by decide) (by decide)
structure ElD(kind:Int)(a1 a2 s1 s2 p:Nat)(X Y S T:Int):Prop where
 ha:IsC a1 a2 X Y
 hs:IsC s1 s2 S T
 bX:X.natAbs<=1000
 bY:Y.natAbs<=1000
 bS:S.natAbs<=1000
 bT:T.natAbs<=1000
 hp:p<2^64
 hv:tT kind (decide (X=0/\Y=0)) p=0
theorem ElD.chk{kind:Int}{a1 a2 s1 s2 p:Nat}{X Y S T:Int}(h:ElD kind a1 a2 s1 s2 p X Y S T){R:Type}(k:KIO R):cT cK cJ bJ eC R kind a1 a2 s1 s2 p k=k 0:=by
 have c:∀{n:Int},n.natAbs<=1000->n.natAbs<=2^40:=λh=>Nat.le_trans h (by decide)
 rw[aC5 h.ha h.hs (c h.bX) (c h.bY) (c h.bS) (c h.bT) h.hp,h.hv]
theorem rS{a:Nat}{x:Rat}(h:Is a x)(hb:x.abs<=((2^40:Int):Rat)){R:Type}(k:KBO R):cJ R a 4787326403894837248 k=k true:=by rw[aH1,sD (kW h) aSe,D7 hb]
theorem bIy:(1000000:Rat)<=((2^40:Int):Rat):=by decide +kernel
theorem aFd{a b:Nat}{x y:Rat}(h:Is a x)(g:Is b y)(hx:x.abs<=1000000)(hy:y.abs<=1000000){R:Type}(k:KBO R):cK R a b k=k true:=by have p:=bIy;unfold cK aTb jQ yD;rw[rS h (cR hx p),aJ];simp only;rw[rS g (cR hy p),aJ,aJ]
theorem aBp{a b:Nat}{z:Cp}(h:IsZ a b z)(hz:z.nsq≠0){R:Type}(k:KBO R):bJ R a b k=k false:=by
 unfold bJ;rw[aJ,qT h.1 is0];by_cases h1:z.re=0
 ·rw[D7 h1];simp only;rw[aJ,qT h.2 is0];have:¬z.im=0:=λh2=>hz (by unfold Cp.nsq;rw[h1,h2];grind)
  rw[E7 this]
 ·rw[E7 h1]
theorem aAz{R:Type}{x y:Nat}{z:Cp}(h:IsZ x y z)(er:KIO R)(k:KNN R):jI aP er k x y=k x y:=by unfold jI;rw[nK h.1 h.2,aJ]
def mD:Rat:=1/1073741824
def rD:Rat:=8192
theorem bZ:iG=1606938044258990275541962092341162602522202993782792835301376:=by unfold iG;rw[show(200:Int)=((200:Nat):Int) by rfl,cN];rfl
theorem aHw{q:Nat}(hq:q<=900):16*tn<=1/1000*eps*(2:Rat)^(-(q:Int)):=by
 have h1:tn=(2:Rat)^(-1023:Int)*eps:=by unfold tn eps;rw[<-bO];rfl
 have h2:=cY (show(-900:Int)<=-(q:Int) by omega);have h3:(2:Rat)^(-1023:Int)=(2:Rat)^(-900:Int)*(2:Rat)^(-123:Int):=by rw[<-bO];rfl
 have h4:=cY (show(-123:Int)<=-20 by decide);rw[aPt]at h4;have ep:=bI;have p9:=bG (-900);rw[h1,h3];have a1:=dI h4 (bN p9);have a2:=cG a1 (bN ep);have a3:=cG h2 (bN ep);grind
theorem bTs:mD=(2:Rat)^(-30:Int):=by
 have h:=jG 30;have e:(2:Rat)^(30:Int)=1073741824:=by rw[show(30:Int)=((30:Nat):Int) by rfl,cN];rfl
 rw[e]at h;unfold mD;grind
theorem bIx(q:Int):∀n:Nat,((2:Rat)^q)^n=(2:Rat)^(q*(n:Int))
 |0=>by rw[Rat.pow_zero,show q*((0:Nat):Int)=0 by simp,Rat.zpow_zero]
 |n+1=>by rw[Rat.pow_succ,bIx q n,<-bO];congr 1;push_cast;rw[Int.mul_add,Int.mul_one]
theorem aSk(n:Nat):mD^n=(2:Rat)^(-((30*n:Nat):Int)):=by rw[bTs,bIx];congr 1
theorem aMy:64*rD^10+1<=iG:=by rw[bZ];unfold rD;decide +kernel
theorem bTt:16*tn<=1/1000*eps*mD^10:=by rw[aSk];exact aHw (by decide)
section
variable{a1 a2 s1 s2 p z1 z2 d1 d2:Nat}{X Y S T:Int}{kind:Int}{D z:Cp}{R:Type}
theorem aNk(h:ElD kind a1 a2 s1 s2 p X Y S T)(hz:IsZ z1 z2 z)(bz:Nm z 100000)(hs:∀(R:Type)(k:KNN R),gJ R z1 z2 a1 a2 k=k d1 d2)(hD:IsZ d1 d2 D)(hn:D.nsq≠0){pre:Option R->Option R}(hpre:∀x,pre x=x)(er:KIO R)(at0 leaf:KNN R):
  wU (cT cK cJ bJ eC) cK bJ gJ kind p pre a1 a2 s1 s2 z1 z2 er at0 leaf=leaf d1 d2:=by
 unfold wU;rw[h.chk];simp only[decide_true];rw[aFd hz.1 hz.2 (by have:=bz.re;grind) (by have:=bz.im;grind),aJ];simp only;rw[hpre,hs,aBp hD hn,aJ]
theorem bCk{c1 c2:Nat}(h:ElD 2 a1 a2 s1 s2 p X Y S T)(hz:IsZ z1 z2 z)(bz:Nm z 100000)(hs:∀(R:Type)(k:KNN R),gJ R z1 z2 a1 a2 k=k d1 d2)(hD:IsZ d1 d2 D)(hn:D.nsq≠0)(hc:∀(R:Type)(k:KNN R),eQ R s1 s2 4594902181429758083 k=k c1 c2)(er:KIO R)(leaf:Nat->Nat->Nat->Nat->Option R):
  bYc (cT cK cJ bJ eC) cK bJ gJ eQ a1 a2 s1 s2 p z1 z2 er leaf=leaf c1 c2 d1 d2:=by
 unfold bYc;rw[h.chk];simp only[decide_true];rw[aFd hz.1 hz.2 (by have:=bz.re;grind) (by have:=bz.im;grind),aJ];simp only;rw[hc,hs,aBp hD hn,aJ]
end
def gz(S T:Int):Cp:=⟨(S:Rat),(T:Rat)⟩
theorem aJc{a b:Nat}{S T:Int}(h:IsC a b S T):IsZ a b (gz S T):=⟨h.1,h.2⟩
theorem aBh{S T:Int}(h:gz S T≠Cp.zero):Ng (gz S T) 1:=by
 refine⟨by decide,?_⟩;have:S≠0\/T≠0:=by
  refine Classical.byContradiction λhn=>h ?_
  have h1:S=0:=Classical.byContradiction λe=>hn (.inl e)
  have h2:T=0:=Classical.byContradiction λe=>hn (.inr e)
  rw[h1,h2];exact Cp.ext' rfl rfl
 unfold gz Cp.nsq;simp only;have n1:((S.natAbs*S.natAbs:Nat):Int)=S*S:=Int.natAbs_mul_self;have n2:((T.natAbs*T.natAbs:Nat):Int)=T*T:=Int.natAbs_mul_self;have:1<=S*S+T*T:=by
  rw[<-n1,<-n2];rcases this with h|h;· have:=Nat.mul_pos (show 0<S.natAbs by omega) (show 0<S.natAbs by omega);omega
  ·have:=Nat.mul_pos (show 0<T.natAbs by omega) (show 0<T.natAbs by omega);omega
 have q:((1:Int):Rat)<=((S*S+T*T:Int):Rat):=by exact_mod_cast this
 push_cast at q;grind
theorem aI8{S T:Int}{B:Nat}(h:S.natAbs<=B)(g:T.natAbs<=B):Nm (gz S T) (3/2*(B:Rat)):=by
 have h1:=kJ h;have h2:=kJ g;have e:(((B:Nat):Int):Rat)=(B:Rat):=by norm_cast
 rw[e]at h1 h2;exact vG h1 h2
theorem sC{D:Cp}{m r:Rat}(hm:Ng D m)(m0:0<m)(hr:Nm D r)(r0:0<r):Nm D.inv (m⁻¹)/\Ng D.inv (r⁻¹):=by
 have hn:=vF hm m0;have e:=aPm hn;have em:=Rat.mul_inv_cancel m (by grind);have er:=Rat.mul_inv_cancel r (by grind);have pm:=Rat.inv_pos.2 m0;have pr:=Rat.inv_pos.2 r0;have i0:=D.inv.nsq_nonneg;have h1:=hm.2;have h2:=hr.2;suffices key:D.inv.nsq<=m⁻¹*m⁻¹/\r⁻¹*r⁻¹<=D.inv.nsq from⟨⟨bN pm,key.1⟩,⟨bN pr,key.2⟩⟩
 generalize D.inv.nsq=I at *
 generalize D.nsq=N at *
 generalize m⁻¹=u at *
 generalize r⁻¹=v at *
 constructor
 ·have k1:=cG h1 i0;have k2:=dI k1 (aT u);have:u*u*(m*m*I)=I:=by
   have:u*u*(m*m*I)=(m*u)*(m*u)*I:=by grind
   rw[this,em];grind
  rwa[this,e,Rat.mul_one]at k2
 ·have k1:=cG h2 i0;have k2:=dI k1 (aT v);have:v*v*(r*r*I)=I:=by
   have:v*v*(r*r*I)=(r*v)*(r*v)*I:=by grind
   rw[this,er];grind
  rwa[this,e,Rat.mul_one]at k2
end Go.Vx
namespace Go.Vm
def tm(x:Rat):Nat->Rat
 |0=>1
 |m+1=>tm x m*x/((m+1:Nat):Rat)
theorem aSs{m:Nat}:((m+1:Nat):Rat)≠0:=by
 have:(0:Rat)<((m+1:Nat):Rat):=by exact_mod_cast Nat.succ_pos m
 grind
theorem aB1(x:Rat)(m:Nat):((m+1:Nat):Rat)*tm x (m+1)=x*tm x m:=by
 have:=Rat.mul_inv_cancel _ (aSs (m:=m));simp only[tm];rw[Rat.div_def];generalize (((m+1:Nat):Rat))⁻¹=q at *
 generalize ((m+1:Nat):Rat)=a at *
 grind
theorem aTy(f:Nat->Rat):∀(m c:Nat),sm f (c+1) m=sm (λj=>f (j+1)) c m
 |0,c=>rfl
 |m+1,c=>by simp only[sm];rw[aTy f m (c+1)]
def cv(a b:Nat->Rat)(s:Nat):Rat:=sm (λm=>a m*b (s-m)) 0 (s+1)
theorem bKx(x y:Rat)(s:Nat):((s+1:Nat):Rat)*cv (tm x) (tm y) (s+1)=(x+y)*cv (tm x) (tm y) s:=by
 unfold cv;have e1:((s+1:Nat):Rat)*sm (λm=>tm x m*tm y (s+1-m)) 0 (s+1+1)=sm (λm=>(((m:Nat):Rat)*tm x m)*tm y (s+1-m)) 0 (s+1+1)+sm (λm=>tm x m*(((s+1-m:Nat):Rat)*tm y (s+1-m))) 0 (s+1+1):=by
  rw[<-wQ,<-aCp];refine kV _ _ λm _ hm=>?_
  have:((s+1:Nat):Rat)=((m:Nat):Rat)+((s+1-m:Nat):Rat):=by rw[show s+1=m+(s+1-m) by omega];push_cast;rw[show m+(s+1-m)-m=s+1-m by omega]
  rw[this];grind
 rw[e1];have e2:sm (λm=>(((m:Nat):Rat)*tm x m)*tm y (s+1-m)) 0 (s+1+1)=x*sm (λm=>tm x m*tm y (s-m)) 0 (s+1):=by show(((0:Nat):Rat)*tm x 0)*tm y (s+1-0)+sm (λm=>(((m:Nat):Rat)*tm x m)*tm y (s+1-m)) (0+1) (s+1)=_;rw[aTy,show((0:Nat):Rat)=0 from rfl,<-wQ];rw[show(0*tm x 0*tm y (s+1-0):Rat)=0 by grind,Rat.zero_add];refine(kV (s+1) 0 λm _ hm=>?_);rw[aB1,show s+1-(m+1)=s-m by omega];grind
 have e3:sm (λm=>tm x m*(((s+1-m:Nat):Rat)*tm y (s+1-m))) 0 (s+1+1)=y*sm (λm=>tm x m*tm y (s-m)) 0 (s+1):=by rw[aFs,show s+1-(0+(s+1))=0 by omega,show((0:Nat):Rat)=0 from rfl,<-wQ];rw[show(tm x (0+(s+1))*(0*tm y 0):Rat)=0 by grind,Rat.add_zero];refine(kV (s+1) 0 λm _ hm=>?_);rw[show s+1-m=(s-m)+1 by omega,aB1];grind
 rw[e2,e3];grind
theorem aUb(x y:Rat):∀s,tm (x+y) s=cv (tm x) (tm y) s
 |0=>by show(1:Rat)=1*1+0;grind
 |s+1=>by
  have h1:=bKx x y s;have h2:=aB1 (x+y) s;rw[aUb x y s]at h2;rw[<-h1]at h2;have hn:=aSs (m:=s);have:=Rat.mul_inv_cancel _ hn;generalize (((s+1:Nat):Rat))⁻¹=q at *
  generalize ((s+1:Nat):Rat)=a at *
  grind
theorem aKs(a b:Nat->Rat):∀N,sm (λs=>cv a b s) 0 N=sm (λm=>a m*sm b 0 (N-m)) 0 N
 |0=>rfl
 |N+1=>by
  rw[aFs,aFs,aKs a b N,Nat.zero_add];unfold cv;rw[aFs,Nat.zero_add,Nat.sub_self,show N+1-N=1 by omega];have e:sm (λm=>a m*sm b 0 (N+1-m)) 0 N=sm (λm=>a m*sm b 0 (N-m)) 0 N+sm (λm=>a m*b (N-m)) 0 N:=by
   rw[<-aCp];refine kV _ _ λm _ hm=>?_
   rw[show N+1-m=(N-m)+1 by omega,aFs,Nat.zero_add];grind
  rw[e];simp only[sm];grind
theorem aKl(f g:Nat->Rat)(m c:Nat)(h:∀j,c<=j->j<c+m->f j<=g j):sm f c m<=sm g c m:=by
 induction m generalizing c with
 |zero=>simp only[sm];exact Rat.le_refl
 |succ m ih=>
  simp only[sm];have h1:=h c (L9 _) (by omega);have h2:=ih (c+1) λj g1 g2=>h j (by omega) (by omega)
  grind
theorem bBf(f:Nat->Rat)(m c:Nat):sm (λj=>-(f j)) c m=-(sm f c m):=by have:=wQ (-1) f m c;rw[kV (f:=λj=>-(f j)) (g:=λj=>-1*f j) m c λj _ _=>by grind,this];grind
theorem bJf(a b:Nat->Rat)(N:Nat):sm a 0 N*sm b 0 N-sm (λs=>cv a b s) 0 N=sm (λm=>a m*sm b (N-m) m) 0 N:=by
 rw[aKs];have e:sm (λm=>a m*sm b (N-m) m) 0 N=sm (λm=>sm b 0 N*a m) 0 N+sm (λm=>-(a m*sm b 0 (N-m))) 0 N:=by
  rw[<-aCp];refine kV _ _ λm _ hm=>?_
  have:=pQ b (N-m) m 0;rw[show N-m+m=N by omega,Nat.zero_add]at this;grind
 rw[e,wQ,bBf];grind
theorem sS{x:Rat}(h:0<=x):∀m,0<=tm x m
 |0=>by simp only[tm];grind
 |m+1=>by simp only[tm];rw[Rat.div_def];have h1:=bU (sS h m) h;have h2:(0:Rat)<=(((m+1:Nat):Rat))⁻¹:=bN (Rat.inv_pos.2 (by exact_mod_cast Nat.succ_pos m));exact bU h1 h2
theorem bJk(x:Rat):∀m,(tm x m).abs=tm x.abs m
 |0=>by simp only[tm];exact fZ (by grind)
 |m+1=>by simp only[tm];have h2:(0:Rat)<=(((m+1:Nat):Rat))⁻¹:=bN (Rat.inv_pos.2 (by exact_mod_cast Nat.succ_pos m));rw[Rat.div_def,Rat.div_def,bD,bD,bJk x m,fZ h2]
theorem bBr{a b:Nat->Rat}(ha:∀m,0<=a m)(hb:∀m,0<=b m)(N:Nat):sm a 0 N*sm b 0 N<=sm (λs=>cv a b s) 0 (N+N):=by
 rw[aKs,pQ];have mono:∀i j,i<=j->sm b 0 i<=sm b 0 j:=λi j h=>by have:=pQ b i (j-i) 0;rw[show i+(j-i)=j by omega]at this;have:=aAu hb (j-i) (0+i);grind
 have h1:sm a 0 N*sm b 0 N<=sm (λm=>a m*sm b 0 (N+N-m)) 0 N:=by
  rw[Rat.mul_comm,<-wQ];refine aKl _ _ _ _ λm _ hm=>?_
  have:=dI (mono N (N+N-m) (by omega)) (ha m);grind
 have h2:=aAu (f:=λm=>a m*sm b 0 (N+N-m)) (λm=>bU (ha m) (aAu hb _ _)) N (0+N);grind
theorem bil{a b A B:Nat->Rat}(ha:∀m,(a m).abs<=A m)(hb:∀m,(b m).abs<=B m)(N:Nat):(sm a 0 N*sm b 0 N-sm (λs=>cv a b s) 0 N).abs<=sm (λs=>cv A B s) N N:=by
 have A0:∀m,0<=A m:=λm=>cR (aH _) (ha m)
 have B0:∀m,0<=B m:=λm=>cR (aH _) (hb m)
 have h1:(sm (λm=>a m*sm b (N-m) m) 0 N).abs<=sm (λm=>A m*sm B (N-m) m) 0 N:=aAt N 0 λm _ _=>by rw[bD];exact aC (ha m) (aAt m (N-m) λj _ _=>hb j) (aH _) (A0 m)
 rw[bJf];rw[<-bJf A B N]at h1;have h2:=bBr A0 B0 N;rw[pQ,Nat.zero_add]at h2;grind
theorem aFz{x y:Rat}(h0:0<=x)(h:x<=y):∀m,tm x m<=tm y m
 |0=>Rat.le_refl
 |m+1=>by simp only[tm];rw[Rat.div_def,Rat.div_def];have h2:(0:Rat)<=(((m+1:Nat):Rat))⁻¹:=bN (Rat.inv_pos.2 (by exact_mod_cast Nat.succ_pos m));exact cG (aC (aFz h0 h m) h h0 (cR (sS h0 m) (aFz h0 h m))) h2
def reI(m:Nat):Rat:=match m%4 with
 |0=>1
 |1=>0
 |2=>-1
 |_=>0
def iI(m:Nat):Rat:=match m%4 with
 |0=>0
 |1=>1
 |2=>0
 |_=>-1
theorem bI5(m l:Nat):reI (m+l)=reI m*reI l-iI m*iI l/\iI (m+l)=reI m*iI l+iI m*reI l:=by
 unfold reI iI;rw[Nat.add_mod];have h1:=Nat.mod_lt m (show 0<4 by decide);have h2:=Nat.mod_lt l (show 0<4 by decide);generalize m%4=a at *
 generalize l%4=b at *
 match a,b,h1,h2 with
 |0,0,_,_=>exact⟨by decide +kernel,by decide +kernel⟩
 |0,1,_,_=>exact⟨by decide +kernel,by decide +kernel⟩
 |0,2,_,_=>exact⟨by decide +kernel,by decide +kernel⟩
 |0,3,_,_=>exact⟨by decide +kernel,by decide +kernel⟩
 |1,0,_,_=>exact⟨by decide +kernel,by decide +kernel⟩
 |1,1,_,_=>exact⟨by decide +kernel,by decide +kernel⟩
 |1,2,_,_=>exact⟨by decide +kernel,by decide +kernel⟩
 |1,3,_,_=>exact⟨by decide +kernel,by decide +kernel⟩
 |2,0,_,_=>exact⟨by decide +kernel,by decide +kernel⟩
 |2,1,_,_=>exact⟨by decide +kernel,by decide +kernel⟩
 |2,2,_,_=>exact⟨by decide +kernel,by decide +kernel⟩
 |2,3,_,_=>exact⟨by decide +kernel,by decide +kernel⟩
 |3,0,_,_=>exact⟨by decide +kernel,by decide +kernel⟩
 |3,1,_,_=>exact⟨by decide +kernel,by decide +kernel⟩
 |3,2,_,_=>exact⟨by decide +kernel,by decide +kernel⟩
 |3,3,_,_=>exact⟨by decide +kernel,by decide +kernel⟩
theorem bU9(m:Nat):(reI m).abs<=1/\(iI m).abs<=1:=by
 unfold reI iI;have h1:=Nat.mod_lt m (show 0<4 by decide);generalize m%4=a at *
 match a,h1 with
 |0,_=>exact⟨by decide +kernel,by decide +kernel⟩
 |1,_=>exact⟨by decide +kernel,by decide +kernel⟩
 |2,_=>exact⟨by decide +kernel,by decide +kernel⟩
 |3,_=>exact⟨by decide +kernel,by decide +kernel⟩
def csN(x:Rat):Rat:=sm (λm=>reI m*tm x m) 0 64
def snN(x:Rat):Rat:=sm (λm=>iI m*tm x m) 0 64
def tlN:Rat:=sm (tm 8) 64 64
theorem bGc:tlN<=1/1000000000000000000000000000000:=by decide +kernel
theorem oY(x:Rat)(m:Nat):(reI m*tm x m).abs<=tm x.abs m/\(iI m*tm x m).abs<=tm x.abs m:=by have h:=bU9 m;have t:=sS (aH x) m;rw[bD,bD,bJk];have h1:=cG h.1 t;have h2:=cG h.2 t;exact⟨by grind,by grind⟩
theorem bKy{x y:Rat}(h:x.abs+y.abs<=8):sm (λs=>cv (tm x.abs) (tm y.abs) s) 64 64<=tlN:=by
 unfold tlN;refine aKl _ _ _ _ λs _ _=>?_
 rw[<-aUb];have:=aH x;have:=aH y;exact aFz (by grind) h s
theorem bN2(f g:Nat->Rat)(m c:Nat):sm f c m-sm g c m=sm (λj=>f j-g j) c m:=by have h:=aCp (λj=>f j-g j) g m c;rw[kV (f:=λj=>f j-g j+g j) (g:=f) m c λj _ _=>by grind]at h;grind
theorem bRv(a b c d:Nat->Rat)(s:Nat):cv a b s-cv c d s=sm (λm=>a m*b (s-m)-c m*d (s-m)) 0 (s+1):=by unfold cv;rw[kV (f:=λm=>a m*b (s-m)-c m*d (s-m)) (g:=λm=>a m*b (s-m)+-(c m*d (s-m))) (s+1) 0 λj _ _=>by grind,aCp,bBf];grind
theorem aG9{x y:Rat}(h:x.abs+y.abs<=8):(csN (x+y)-(csN x*csN y-snN x*snN y)).abs<=2*tlN/\(snN (x+y)-(csN x*snN y+snN x*csN y)).abs<=2*tlN:=by
 have t:=bKy h;have b1:=bil (λm=>(oY x m).1) (λm=>(oY y m).1) 64;have b2:=bil (λm=>(oY x m).2) (λm=>(oY y m).2) 64;have b3:=bil (λm=>(oY x m).1) (λm=>(oY y m).2) 64;have b4:=bil (λm=>(oY x m).2) (λm=>(oY y m).1) 64;have e1:csN (x+y)=sm (λs=>cv (λm=>reI m*tm x m) (λm=>reI m*tm y m) s) 0 64-sm (λs=>cv (λm=>iI m*tm x m) (λm=>iI m*tm y m) s) 0 64:=by
  rw[bN2];unfold csN;refine kV _ _ λs _ _=>?_
  rw[bRv,aUb];unfold cv;rw[<-wQ];refine kV _ _ λm _ hm=>?_
  have:=(bI5 m (s-m)).1;rw[show m+(s-m)=s by omega]at this;rw[this];grind
 have e2:snN (x+y)=sm (λs=>cv (λm=>reI m*tm x m) (λm=>iI m*tm y m) s) 0 64+sm (λs=>cv (λm=>iI m*tm x m) (λm=>reI m*tm y m) s) 0 64:=by
  rw[<-aCp];unfold snN;refine kV _ _ λs _ _=>?_
  rw[aUb];unfold cv;rw[<-aCp,<-wQ];refine kV _ _ λm _ hm=>?_
  have:=(bI5 m (s-m)).2;rw[show m+(s-m)=s by omega]at this;rw[this];grind
 change (csN x*csN y-_).abs<=_ at b1;change (snN x*snN y-_).abs<=_ at b2;change (csN x*snN y-_).abs<=_ at b3;change (snN x*csN y-_).abs<=_ at b4;rw[e1,e2];generalize sm (λs=>cv (λm=>reI m*tm x m) (λm=>reI m*tm y m) s) 0 64=A at *
 generalize sm (λs=>cv (λm=>iI m*tm x m) (λm=>iI m*tm y m) s) 0 64=B at *
 generalize sm (λs=>cv (λm=>reI m*tm x m) (λm=>iI m*tm y m) s) 0 64=C at *
 generalize sm (λs=>cv (λm=>iI m*tm x m) (λm=>reI m*tm y m) s) 0 64=D at *
 clear e1 e2;have g1:=aA.1 b1;have g2:=aA.1 b2;have g3:=aA.1 b3;have g4:=aA.1 b4;exact⟨aA.2 ⟨by grind,by grind⟩,aA.2 ⟨by grind,by grind⟩⟩
theorem bB9(x:Rat):∀m,tm (-x) m=(if m%2=0 then 1 else -1)*tm x m
 |0=>by show(1:Rat)=(if 0%2=0 then 1 else -1)*1;rw[if_pos rfl];grind
 |m+1=>by
  simp only[tm];rw[bB9 x m,Rat.div_def,Rat.div_def];rcases Nat.mod_two_eq_zero_or_one m with h|h;· rw[if_pos h,if_neg (by omega)];grind
  ·rw[if_neg (by omega),if_pos (by omega)];grind
theorem aRb(x:Rat):csN (-x)=csN x/\snN (-x)=-(snN x):=by
 constructor
 ·unfold csN;refine kV _ _ λm _ _=>?_
  rw[bB9];unfold reI;have h1:=Nat.mod_lt m (show 0<4 by decide);have h2:m%2=m%4%2:=by omega
  rw[h2];generalize m%4=a at *
  match a,h1 with
  |0,_=>simp
  |1,_=>simp
  |2,_=>simp
  |3,_=>simp
 ·unfold snN;rw[<-bBf];refine kV _ _ λm _ _=>?_
  rw[bB9];unfold iI;have h1:=Nat.mod_lt m (show 0<4 by decide);have h2:m%2=m%4%2:=by omega
  rw[h2];generalize m%4=a at *
  match a,h1 with
  |0,_=>simp
  |1,_=>simp;grind
  |2,_=>simp
  |3,_=>simp;grind
theorem aD6:csN 0=1/\snN 0=0:=by decide +kernel
theorem bHo{x:Rat}(h:x.abs<=35/10):(csN x*csN x+snN x*snN x-1).abs<=2*tlN:=by have h1:=(aG9 (x:=x) (y:=-x) (by rw[abs_neg];grind)).1;rw[(aRb x).1,(aRb x).2,show x+-x=0 by grind,aD6.1]at h1;rw[show csN x*csN x+snN x*snN x-1=-(1-(csN x*csN x-snN x*-(snN x))) by grind,abs_neg];exact h1
def qP:Rat:=1686629713/1073741824+2242054355/36893488147419103232+160220439/79228162514264337593543950336
def kP:Rat:=1/10000000000000000000000000000
theorem bAu:(csN qP).abs<=kP/\(snN qP-1).abs<=kP:=by decide +kernel
theorem bAv:(csN (2*qP)+1).abs<=kP/\(snN (2*qP)).abs<=kP:=by decide +kernel
theorem bAw:(csN (3*qP)).abs<=kP/\(snN (3*qP)+1).abs<=kP:=by decide +kernel
theorem bAx:(csN (4*qP)-1).abs<=kP/\(snN (4*qP)).abs<=kP:=by decide +kernel
theorem bB8:2*tlN<=kP:=by decide +kernel
theorem pJ:0<kP/\kP<=eps*(1/1000000):=by rw[oP];unfold kP;exact⟨by decide +kernel,by decide +kernel⟩
theorem bUz:15707963/10000000<=qP/\qP<=15707964/10000000:=by decide +kernel
theorem bCa{d:Rat}(h0:0<=d)(h:d<=1/2):∀k m,sm (tm d) (m+1) k<=2*tm d (m+1)
 |0,m=>by simp only[sm];have:=sS h0 (m+1);grind
 |k+1,m=>by
  show tm d (m+1)+sm (tm d) (m+1+1) k<=_;have h1:=bCa h0 h k (m+1);have h2:=aB1 d (m+1);have h3:=sS h0 (m+1);have h4:=sS h0 (m+1+1);have h5:(2:Rat)<=((m+1+1:Nat):Rat):=by exact_mod_cast (show 2<=m+1+1 by omega)
  have h6:=cG h5 h4;have h7:=cG h h3;grind
theorem bKv{x:Rat}(h:x.abs<=35/10):(csN x).abs<=1001/1000/\(snN x).abs<=1001/1000:=by
 have h1:=aA.1 (bHo h);have t:=bGc;have key:∀{a b:Rat},a*a+b*b-1<=2*tlN->a.abs<=1001/1000:=λ{a b} hab=>by
  refine nX (by grind) ?_;have:a.abs*a.abs=a*a:=by rw[<-bD,aNb]
  have:=aT b;grind
 exact⟨key h1.2,key (a:=snN x) (b:=csN x) (by grind)⟩
def stI(Z:Rat):List (Int×Int)->Rat->Rat->Rat×Rat
 |[],s,c=>(s,c)
 |(a,b)::l,s,c=>stI Z l (1-Z/(a:Rat)*s) (1-Z/(b:Rat)*c)
def stL:List (Int×Int):=[(342,306),(272,240),(210,182),(156,132),(110,90),(72,56),(42,30),(20,12),(6,2)]
theorem pD(y:Rat)(m:Nat){a:Rat}(h:((m+1:Nat):Rat)*((m+2:Nat):Rat)=a):tm y (m+2)=tm y m*(y*y/a):=by
 have h1:=aB1 y m;have h2:=aB1 y (m+1);have n1:=aSs (m:=m);have n2:=aSs (m:=m+1);have hn:a≠0:=by
  intro e;rw[e]at h;rcases Rat.mul_eq_zero.1 h with g|g;· exact n1 g
  ·exact n2 g
 have hc:=Rat.mul_inv_cancel _ hn;rw[Rat.div_def];have h3:a*tm y (m+2)=tm y m*(y*y):=by
  rw[<-h];generalize ((m+1:Nat):Rat)=p at *
  change ((m+1+1:Nat):Rat)*tm y (m+2)=_ at h2;generalize hq:((m+1+1:Nat):Rat)=q at *
  change p*q*tm y (m+2)=_;grind
 generalize a⁻¹=q at *
 grind
theorem bF6(y:Rat):sm (λm=>iI m*tm y m) 0 20=tm y 1-tm y 3+tm y 5-tm y 7+tm y 9-tm y 11+tm y 13-tm y 15+tm y 17-tm y 19:=by simp only[sm,Nat.zero_add,Nat.reduceAdd,show iI 0=0 from rfl,show iI 1=1 from rfl,show iI 2=0 from rfl,show iI 3=-1 from rfl,show iI 4=0 from rfl,show iI 5=1 from rfl,show iI 6=0 from rfl,show iI 7=-1 from rfl,show iI 8=0 from rfl,show iI 9=1 from rfl,show iI 10=0 from rfl,show iI 11=-1 from rfl,show iI 12=0 from rfl,show iI 13=1 from rfl,show iI 14=0 from rfl,show iI 15=-1 from rfl,show iI 16=0 from rfl,show iI 17=1 from rfl,show iI 18=0 from rfl,show iI 19=-1 from rfl];grind
theorem bDm(y:Rat):sm (λm=>reI m*tm y m) 0 20=tm y 0-tm y 2+tm y 4-tm y 6+tm y 8-tm y 10+tm y 12-tm y 14+tm y 16-tm y 18:=by simp only[sm,Nat.zero_add,Nat.reduceAdd,show reI 0=1 from rfl,show reI 1=0 from rfl,show reI 2=-1 from rfl,show reI 3=0 from rfl,show reI 4=1 from rfl,show reI 5=0 from rfl,show reI 6=-1 from rfl,show reI 7=0 from rfl,show reI 8=1 from rfl,show reI 9=0 from rfl,show reI 10=-1 from rfl,show reI 11=0 from rfl,show reI 12=1 from rfl,show reI 13=0 from rfl,show reI 14=-1 from rfl,show reI 15=0 from rfl,show reI 16=1 from rfl,show reI 17=0 from rfl,show reI 18=-1 from rfl,show reI 19=0 from rfl];grind
theorem bJl(y:Rat):tm y 1=y:=by simp only[tm];rw[Rat.div_def];norm_cast;grind
theorem aYy(y:Rat):y*(stI (y*y) stL 1 1).1=sm (λm=>iI m*tm y m) 0 20:=by rw[bF6,pD y 17 (a:=342) (by norm_cast),pD y 15 (a:=272) (by norm_cast),pD y 13 (a:=210) (by norm_cast),pD y 11 (a:=156) (by norm_cast),pD y 9 (a:=110) (by norm_cast),pD y 7 (a:=72) (by norm_cast),pD y 5 (a:=42) (by norm_cast),pD y 3 (a:=20) (by norm_cast),pD y 1 (a:=6) (by norm_cast),bJl];simp only[stI,stL];simp only[show((342:Int):Rat)=342 by norm_cast,show((272:Int):Rat)=272 by norm_cast,show((210:Int):Rat)=210 by norm_cast,show((156:Int):Rat)=156 by norm_cast,show((110:Int):Rat)=110 by norm_cast,show((72:Int):Rat)=72 by norm_cast,show((42:Int):Rat)=42 by norm_cast,show((20:Int):Rat)=20 by norm_cast,show((6:Int):Rat)=6 by norm_cast];generalize y*y/342=a;generalize y*y/272=b;generalize y*y/210=c;generalize y*y/156=d;generalize y*y/110=e;generalize y*y/72=f;generalize y*y/42=g;generalize y*y/20=h;generalize y*y/6=i;grind
theorem aYx(y:Rat):(stI (y*y) stL 1 1).2=sm (λm=>reI m*tm y m) 0 20:=by rw[bDm,pD y 16 (a:=306) (by norm_cast),pD y 14 (a:=240) (by norm_cast),pD y 12 (a:=182) (by norm_cast),pD y 10 (a:=132) (by norm_cast),pD y 8 (a:=90) (by norm_cast),pD y 6 (a:=56) (by norm_cast),pD y 4 (a:=30) (by norm_cast),pD y 2 (a:=12) (by norm_cast),pD y 0 (a:=2) (by norm_cast),show tm y 0=1 from rfl];simp only[stI,stL];simp only[show((306:Int):Rat)=306 by norm_cast,show((240:Int):Rat)=240 by norm_cast,show((182:Int):Rat)=182 by norm_cast,show((132:Int):Rat)=132 by norm_cast,show((90:Int):Rat)=90 by norm_cast,show((56:Int):Rat)=56 by norm_cast,show((30:Int):Rat)=30 by norm_cast,show((12:Int):Rat)=12 by norm_cast,show((2:Int):Rat)=2 by norm_cast];generalize y*y/306=a;generalize y*y/240=b;generalize y*y/182=c;generalize y*y/132=d;generalize y*y/90=e;generalize y*y/56=f;generalize y*y/30=g;generalize y*y/12=h;generalize y*y/2=i;grind
theorem bU7:sm (tm (4/5)) 20 44<=1/100000000000000000000:=by decide +kernel
theorem aQb{y:Rat}(h:y.abs<=4/5):(y*(stI (y*y) stL 1 1).1-snN y).abs<=eps*(1/10000)/\((stI (y*y) stL 1 1).2-csN y).abs<=eps*(1/10000):=by
 have r:sm (tm y.abs) 20 44<=eps*(1/10000):=by refine cR (aKl _ _ _ _ λm _ _=>aFz (aH y) h m) (cR bU7 ?_);rw[oP];decide +kernel
 have a1:(sm (λm=>reI m*tm y m) 20 44).abs<=sm (tm y.abs) 20 44:=aAt _ _ λm _ _=>(oY y m).1
 have a2:(sm (λm=>iI m*tm y m) 20 44).abs<=sm (tm y.abs) 20 44:=aAt _ _ λm _ _=>(oY y m).2
 have e1:csN y=sm (λm=>reI m*tm y m) 0 20+sm (λm=>reI m*tm y m) 20 44:=pQ _ 20 44 0;have e2:snN y=sm (λm=>iI m*tm y m) 0 20+sm (λm=>iI m*tm y m) 20 44:=pQ _ 20 44 0;rw[aYy,aYx,e1,e2];generalize sm (λm=>reI m*tm y m) 20 44=p at *
 generalize sm (λm=>iI m*tm y m) 20 44=q at *
 generalize sm (λm=>reI m*tm y m) 0 20=s at *
 generalize sm (λm=>iI m*tm y m) 0 20=t at *
 rw[show t-(t+q)=-q by grind,show s-(s+p)=-p by grind,abs_neg,abs_neg];exact⟨by grind,by grind⟩
open Ieee
theorem bJ3{x b:Rat}(h:-b<=x)(g:x<=b):x.abs<=b:=aA.2 ⟨h,g⟩
theorem aXg(s:Bool)(m:Nat)(i:Int):(dv s (Toward.even.cut s (m <<< i.toNat) (-i).toNat) 0-dv s m i).abs<=1/2:=by
 have hs:=aIq s (m <<< i.toNat) (-i).toNat;obtain⟨s1,s2,_,_⟩:=hs;generalize Toward.even.cut s (m <<< i.toNat) (-i).toNat=c at *
 have e1:((m <<< i.toNat:Nat):Rat)=(m:Rat)*(2:Rat)^i*((2^(-i).toNat:Nat):Rat):=by rw[<-cN,Nat.shiftLeft_eq,Rat.mul_assoc,<-bO];push_cast;rw[show i+((-i).toNat:Int)=((i.toNat:Nat):Int) by omega,cN];push_cast;rfl
 have hP:(0:Rat)<((2^(-i).toNat:Nat):Rat):=by rw[<-cN];exact bG _
 generalize m <<< i.toNat=n at *
 generalize (2^(-i).toNat:Nat)=P at *
 have g1:(2:Rat)*((c:Rat)*(P:Rat))<=2*(n:Rat)+(P:Rat):=by exact_mod_cast s1
 have g2:(2:Rat)*(n:Rat)<=2*((c:Rat)*(P:Rat))+(P:Rat):=by exact_mod_cast s2
 have dc:dv s c 0=sg s*(c:Rat):=by unfold dv;rw[show(2:Rat)^(0:Int)=1 by simp,Rat.mul_one]
 have dm:dv s m i=sg s*((m:Rat)*(2:Rat)^i):=rfl;rw[dc,dm];generalize (m:Rat)*(2:Rat)^i=M at *
 rw[e1]at g1 g2;have k1:(c:Rat)<=M+1/2:=Rat.le_of_mul_le_mul_right (c:=(P:Rat)) (by grind) hP;have k2:M<=(c:Rat)+1/2:=Rat.le_of_mul_le_mul_right (c:=(P:Rat)) (by grind) hP;have k3:((c:Rat)-M).abs<=1/2:=bJ3 (by grind) (by grind);cases s;· unfold sg;rw[if_neg (by decide),Rat.one_mul,Rat.one_mul];exact k3
 ·unfold sg;rw[if_pos rfl,show(-1:Rat)*(c:Rat) - -1*M=-((c:Rat)-M) by grind,abs_neg];exact k3
theorem aM1{w:Nat}{x:Rat}{B:Nat}(h:Is w x)(hx:x.abs<=((B:Nat):Rat))(hB:B<=2^50):
  ∃(r:Nat)(N:Int),Is r N/\N.natAbs<=B+1/\((N:Rat)-x).abs<=1/2/\∀(R:Type)(k:KNO R),sN .even R w k=k r:=by
 obtain⟨hw,s,m,i,h1,rfl⟩:=h;have hc:=aXf hx;have hn:=aXg s m i;generalize hcc:Toward.even.cut s (m <<< i.toNat) (-i).toNat=c at hc hn;have hdv:dv s c 0=(((if s then -(c:Int) else(c:Int)):Int):Rat):=by
  unfold dv sg;rw[show(2:Rat)^(0:Int)=1 by simp];have e:((c:Nat):Rat)=(((c:Int)):Rat):=by norm_cast
  cases s;· simp only[Bool.false_eq_true,if_false];rw[e];grind
  ·simp only[if_true];push_cast;grind
 have hN:(if s then -(c:Int) else(c:Int)).natAbs<=B+1:=by split<;>omega
 obtain⟨z,z1,z2⟩:=sJ (s:=s) (m:=c) (i:=0) (by rw[hdv];exact xD (by omega));have hz:z=(((if s then -(c:Int) else(c:Int)):Int):Rat):=by rw[hdv]at z2;exact aBv (by omega) z2
 rw[hz]at z1;rw[hdv]at hn;refine⟨_,_,z1,hN,hn,λR k=>?_⟩;unfold sN;rw[h1];simp only[Datum.integral,hcc];rw[cB]
theorem aDl{w m n:Nat}{x:Rat}(hw:w<2^64)(h:double.read w=.number false m (-(n:Int)))(hx:(m:Rat)=x*((2^n:Nat):Rat)):Is w x:=by refine⟨hw,false,m,_,h,?_⟩;unfold dv sg;rw[if_neg (by decide),Rat.one_mul,hx,<-cN,Rat.mul_assoc,jG,Rat.mul_one]
theorem bS4:Is 4603909380684499075 (5734161139222659/9007199254740992):=aDl (m:=5734161139222659) (n:=53) (by decide) (by decide) (by rw[show(2^53:Nat)=9007199254740992 by decide];norm_cast;grind)
theorem bS8:Is 4609753056924401664 (1686629713/1073741824):=aDl (m:=7074237751754752) (n:=52) (by decide) (by decide) (by rw[show(2^52:Nat)=4503599627370496 by decide];norm_cast;grind)
theorem aXm{x a:Rat}(hx:0<=x)(ha:2<=a):x/a<=x/2:=by
 have h1:=Rat.mul_inv_cancel a (by grind);have h2:0<a⁻¹:=Rat.inv_pos.2 (by grind);have h3:a⁻¹<=1/2:=by have:=cG ha (bN h2);grind
 rw[Rat.div_def,Rat.div_def];have:=dI h3 hx;grind
theorem aOg{x a:Rat}(hx:0<=x)(ha:2<=a):0<=x/a:=by rw[Rat.div_def];exact bU hx (bN (Rat.inv_pos.2 (by grind)))
theorem aA6:(1000:Rat)<=iG:=by
 have e:(2:Rat)^(20:Int)=1048576:=by rw[show(20:Int)=((20:Nat):Int) by rfl,cN];rfl
 unfold iG;grind
theorem aS4{z a s:Nat}{Z Y A S σ:Rat}(hz:Is z Z)(hY0:0<=Y)(hY:Y<=65/100)(hZ:(Z-Y).abs<=eps/4)(ha:Is a A)(hA:2<=A)(hs:Is s S)(h0:0<=σ)(h1:σ<=1)(hd:(S-σ).abs<=eps):
  ∃q p r R,fbF .quo z a=some q/\fbF .mul q s=some p/\fbF .sub 4607182418800017408 p=some r/\Is r R/\(R-(1-Y/A*σ)).abs<=eps/\0<=1-Y/A*σ/\1-Y/A*σ<=1:=by
 have ep:=bI;have e6:=bR4;have ts:=pT;have gZ:=aA.1 hZ;have gS:=aA.1 hd;have aZ:Z.abs<=66/100:=aA.2 ⟨by grind,by grind⟩;have aS:S.abs<=11/10:=aA.2 ⟨by grind,by grind⟩;have d1:=aXm hY0 hA;have d0:=aOg hY0 hA;have inv0:0<A⁻¹:=Rat.inv_pos.2 (by grind);have inv1:A⁻¹<=1/2:=by have:=Rat.mul_inv_cancel A (by grind);have:=cG hA (bN inv0);grind
 have qa:(Z/A).abs<=33/100:=by rw[Rat.div_def,bD,fZ (bN inv0)];have:=aC aZ inv1 (bN inv0) (show(0:Rat)<=66/100 by grind);grind
 obtain⟨q,Q,f1,i1,r1⟩:=tU hz ha (by grind) (bL7 (cR (show(Z/A).abs<=1 by grind) (aFb 400)));have e1:=r1.fine;have n1:=cG qa (show 0<=eps/2 by grind);have near1:(Q-Y/A).abs<=eps*(31/100):=by
  have g:=aL (Q-Z/A) (Z/A-Y/A);rw[show Q-Z/A+(Z/A-Y/A)=Q-Y/A by grind]at g;have h:(Z/A-Y/A).abs<=eps/8:=by rw[show Z/A-Y/A=(Z-Y)*A⁻¹ by rw[Rat.div_def,Rat.div_def];grind,bD,fZ (bN inv0)];have:=aC hZ inv1 (bN inv0) (show 0<=eps/4 by grind);grind
  grind
 generalize Y/A=y at *
 generalize Z/A=z' at *
 have gQ:=aA.1 near1;have aQ:Q.abs<=33/100:=aA.2 ⟨by grind,by grind⟩;have b200:=aA6;have pm:=aC aQ aS (aH S) (show(0:Rat)<=33/100 by grind);obtain⟨p,P,f2,i2,e2,_⟩:=jT i1 hs (by grind);have n2:=dI pm (show 0<=eps/4 by grind);have near2:(P-y*σ).abs<=eps*(74/100):=by have g:=aL (P-Q*S) (Q*(S-σ)+(Q-y)*σ);rw[show P-Q*S+(Q*(S-σ)+(Q-y)*σ)=P-y*σ by grind]at g;have g2:=aL (Q*(S-σ)) ((Q-y)*σ);rw[bD,bD,fZ h0]at g2;have m1:=aC aQ hd (aH _) (show(0:Rat)<=33/100 by grind);have m2:=aC near1 h1 h0 (show 0<=eps*(31/100) by grind);grind
 have hy:0<=y*σ/\y*σ<=33/100:=by refine⟨bU d0 h0,?_⟩;have:=aC (show y<=33/100 by grind) h1 h0 (show(0:Rat)<=33/100 by grind);grind
 have gP:=aA.1 near2;have aR:(1-P).abs<=101/100:=aA.2 ⟨by grind,by grind⟩;obtain⟨r,R,f3,i3,r3⟩:=qD aMd i2 (kA (show(1-P).abs<=1000 by grind));have e3:=r3.fine;have n3:=cG aR (show 0<=eps/4 by grind);refine⟨q,p,r,R,f1,f2,f3,i3,?_,by grind,by grind⟩;have g:=aL (R-(1-P)) (y*σ-P);rw[show R-(1-P)+(y*σ-P)=R-(1-y*σ) by grind]at g;rw[lQ]at near2;grind
def cCs(p:Nat×Nat)(q:Int×Int):Prop:=Is p.1 (q.1:Rat)/\Is p.2 (q.2:Rat)/\(2:Rat)<=(q.1:Rat)/\(2:Rat)<=(q.2:Rat)
inductive aWm:List (Nat×Nat)->List (Int×Int)->Prop
 |nil:aWm [] []
 |cons {p q l m} (h:cCs p q) (hs:aWm l m):aWm (p::l) (q::m)
theorem aVz{z:Nat}{Z Y:Rat}(hz:Is z Z)(hY0:0<=Y)(hY:Y<=65/100)(hZ:(Z-Y).abs<=eps/4):∀{l:List (Nat×Nat)}{m:List (Int×Int)},aWm l m->∀(s c:Nat)(S C σ γ:Rat),Is s S->Is c C->0<=σ->σ<=1->(S-σ).abs<=eps->0<=γ->γ<=1->(C-γ).abs<=eps->
  ∃s' c' S' C',Is s' S'/\Is c' C'/\(S'-(stI Y m σ γ).1).abs<=eps/\(C'-(stI Y m σ γ).2).abs<=eps/\0<=(stI Y m σ γ).1/\(stI Y m σ γ).1<=1/\∀(R:Type)(k:KNN R),aT1 z l s c k=k s' c':=by
 intro l m h;induction h with
 |nil=>exact λs c S C σ γ hs hc h0 h1 hd g0 g1 gd=>⟨s,c,S,C,hs,hc,hd,gd,h0,h1,λR k=>rfl⟩
 |cons h hs ih=>
  rename_i p q l m;obtain⟨a1,a2,b1,b2⟩:=h;intro s c S C σ γ is ic h0 h1 hd g0 g1 gd;obtain⟨x1,x2,s',S',f1,f2,f3,i1,e1,k0,k1⟩:=aS4 hz hY0 hY hZ a1 b1 is h0 h1 hd;obtain⟨x3,x4,c',C',f4,f5,f6,i2,e2,l0,l1⟩:=aS4 hz hY0 hY hZ a2 b2 ic g0 g1 gd;obtain⟨s2,c2,S2,C2,t1,t2,t3,t4,t5,t6,t7⟩:=ih s' c' S' C' _ _ i1 i2 k0 k1 e1 l0 l1 e2;refine⟨s2,c2,S2,C2,t1,t2,t3,t4,t5,t6,λR k=>?_⟩;show aM (fbF .quo z p.1) (λx=>aM (fbF .mul x s) λx=>aM (fbF .sub 4607182418800017408 x) λs=>
   aM (fbF .quo z p.2) λx=>aM (fbF .mul x c) λx=>aM (fbF .sub 4607182418800017408 x) λc=>aT1 z l s c k)=k s2 c2
  rw[aK f1,aK f2,aK f3,aK f4,aK f5,aK f6,t7]
theorem aSa{n:Int}{w:Nat}(h:floatOfInt .f64 n=w)(h1:n.natAbs<=1000):Is w (n:Rat):=by have:=pL (n:=n) (by omega);rwa[h]at this
theorem vH{a b:Nat}{m n:Int}(h1:floatOfInt .f64 m=a)(h2:floatOfInt .f64 n=b)(h3:2<=m/\m<=1000)(h4:2<=n/\n<=1000):cCs (a,b) (m,n):=
 ⟨aSa h1 (by omega),aSa h2 (by omega),by exact_mod_cast h3.1,by exact_mod_cast h4.1⟩
theorem bBs:aWm bJg stL:=
 .cons (vH (by decide) (by decide) (by decide) (by decide)) (.cons (vH (by decide) (by decide) (by decide) (by decide)) (.cons (vH (by decide) (by decide) (by decide) (by decide)) (.cons (vH (by decide) (by decide) (by decide) (by decide)) (.cons (vH (by decide) (by decide) (by decide) (by decide)) (.cons (vH (by decide) (by decide) (by decide) (by decide)) (.cons (vH (by decide) (by decide) (by decide) (by decide)) (.cons (vH (by decide) (by decide) (by decide) (by decide)) (.cons (vH (by decide) (by decide) (by decide) (by decide)) .nil))))))))
theorem aQl{y:Nat}{Y:Rat}(hy:Is y Y)(h:Y.abs<=4/5):∃s c S C,Is s S/\Is c C/\(S-snN Y).abs<=2*eps/\(C-csN Y).abs<=2*eps/\∀(R:Type)(k:KNN R),yC R y k=k s c:=by
 have ep:=bI;have e6:=bR4;have ts:=pT;have b200:=aA6;have n0:=aH Y;have m0:=aC h h n0 (show(0:Rat)<=4/5 by grind);have sq:Y.abs*Y.abs=Y*Y:=by rw[<-bD,aNb]
 have s0:=aT Y;obtain⟨z,Z,f1,i1,e1,_⟩:=jT hy hy (by grind);have n1:=dI m0 (show 0<=eps/4 by grind);have one0:((1:Rat)-1).abs<=eps:=by rw[show(1:Rat)-1=0 by grind,fO];grind
 obtain⟨s,c,S,C,j1,j2,d1,d2,g0,g1,hk⟩:=aVz i1 (Y:=Y*Y) s0 (by grind) (by grind) bBs _ _ 1 1 1 1 aMd aMd (by decide) (by decide) one0 (by decide) (by decide) one0;obtain⟨q1,q2⟩:=aQb h;generalize (stI (Y*Y) stL 1 1).1=σ at *
 generalize (stI (Y*Y) stL 1 1).2=γ at *
 have gS:=aA.1 d1;have aS:S.abs<=11/10:=aA.2 ⟨by grind,by grind⟩;have m1:=aC h aS (aH S) (show(0:Rat)<=4/5 by grind);obtain⟨t,T,f2,i2,e2,_⟩:=jT hy j1 (by grind);have n2:=dI m1 (show 0<=eps/4 by grind);refine⟨t,c,T,C,i2,j2,?_,?_,λR k=>?_⟩;· have g:=aL (T-Y*S) (Y*(S-σ));have g2:=aL (T-Y*σ) (Y*σ-snN Y);rw[show T-Y*S+Y*(S-σ)=T-Y*σ by grind,bD]at g;rw[show T-Y*σ+(Y*σ-snN Y)=T-snN Y by grind]at g2;have m2:=aC h d1 (aH _) (show(0:Rat)<=4/5 by grind);grind
 ·have g:=aL (C-γ) (γ-csN Y);rw[show C-γ+(γ-csN Y)=C-csN Y by grind]at g;grind
 ·unfold yC;rw[aK f1,hk,aK f2]
end Go.Vm
