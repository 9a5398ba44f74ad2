/- A part; no conditions. -/
import Derived.Test.YtaogignikkjkjaaGreatVmW6
import Derived.Test.YtaogignikkjkjaaGreatVmWB5
set_option maxRecDepth 1000000
set_option maxHeartbeats 1000000
set_option linter.all false
open Nat renaming le_refl->L9
open Go.Vx.Cp renaming of->C9,zero->Z9,one->O9,mul_assoc->M9,ext'->E9,sub_re->S9,sub_im->T9
namespace Go.Vx
open Go.Vm Go
theorem vC{w:Nat}{n:Int}(h:floatOfInt .f64 n=w)(hn:n.natAbs<2^53):Is w n:=by rw[<-h];exact pL hn
theorem yN{a b:Cp}(ha:a.nsq≠0)(hb:b.nsq≠0):(a*b).inv=a.inv*b.inv:=by
 have hab:(a*b).nsq≠0:=λe=>by rw[Cp.nsq_mul]at e;rcases Rat.mul_eq_zero.1 e with e|e<;>contradiction
 refine Cp.cancel hab ?_;rw[Cp.inv_mul hab,M9,Cp.mul_left_comm b,Cp.inv_mul hb,Cp.mul_one,Cp.inv_mul ha]
theorem bMd:Cp.one.inv=O9:=by
 have h:Cp.one.nsq≠0:=by unfold Cp.nsq;simp only[Cp.one_re,Cp.one_im];grind
 have:=Cp.inv_mul h;rwa[Cp.one_mul]at this
theorem aSy{a:Cp}(h:a.nsq≠0):∀n,(a.pw n).nsq≠0
 |0=>by show Cp.one.nsq≠0;unfold Cp.nsq;simp only[Cp.one_re,Cp.one_im];grind
 |n+1=>λe=>by
  simp only[Cp.pw]at e;rw[Cp.nsq_mul]at e;rcases Rat.mul_eq_zero.1 e with e|e;· exact aSy h n e
  ·exact h e
theorem aY5{a:Cp}(h:a.nsq≠0):∀n,(a.pw n).inv=a.inv.pw n
 |0=>bMd
 |n+1=>by simp only[Cp.pw];rw[yN (aSy h n) h,aY5 h n]
theorem Rl.inv{z Z:Cp}{δ:Rat}(h:Rl z Z δ)(hd:δ<=1/2)(hZ:Z.nsq≠0):Rl z.inv Z.inv (2*δ)/\z.nsq≠0:=by
 obtain⟨e,e1,rfl⟩:=h;have g:=aSv e1 (by grind);have hn:=vF g (by grind);have hz:(Z*(O9+e)).nsq≠0:=λq=>by rw[Cp.nsq_mul]at q;rcases Rat.mul_eq_zero.1 q with q|q<;>contradiction
 refine⟨⟨(O9+e).inv-O9,?_,?_⟩,hz⟩
 ·have i:=(sC g (by grind) (aHi.add e1) (by have:=e1.1;grind)).1;have q:(O9+e).inv-O9=-(e*(O9+e).inv):=by
   have:=Cp.inv_mul hn;rw[Cp.add_mul,Cp.one_mul]at this;generalize (O9+e).inv=u at *
   generalize e*u=v at *
   have h1:=congrArg Cp.re this;have h2:=congrArg Cp.im this;simp only[Cp.add_re,Cp.add_im]at h1 h2;exact E9 (by simp only[S9,Cp.neg_re];grind) (by simp only[T9,Cp.neg_im];grind)
  rw[q];refine(e1.mul i).neg.mono ?_;have d:=Rat.mul_inv_cancel (1-δ) (by grind);have p:=Rat.inv_pos.2 (show 0<1-δ by grind);generalize (1-δ)⁻¹=u at *
  have:u<=2:=by have:=cG (show 1/2<=1-δ by grind) (bN p);grind
  have:=dI this e1.1;grind
 ·rw[yN hZ hn];congr 1;exact E9 (by simp only[Cp.add_re,S9];grind) (by simp only[Cp.add_im,T9];grind)
theorem aPk{a b:Nat}{z:Cp}(h:IsZ a b z):∃t,∀(R:Type)(k:KBO R),bJ R a b k=k t:=by
 by_cases hz:z.nsq=0;· have e:=aF6 hz;subst e;refine⟨true,λR k=>?_⟩;unfold bJ;have h1:Is a 0:=h.1;have h2:Is b 0:=h.2;rw[aJ,qT h1 is0];simp only[decide_true];rw[aJ,qT h2 is0];simp
 ·exact⟨false,λR k=>aBp h hz k⟩
theorem aAa:0<mD:=by unfold mD;decide +kernel
theorem bIn:mD<=1:=by unfold mD;decide +kernel
theorem yA:1<=rD:=by unfold rD;decide +kernel
structure aC2(a1 a2 z1 z2 d1 d2:Nat)(D z:Cp):Prop where
 hz:IsZ z1 z2 z
 bz:Nm z 100000
 hs:∀(R:Type)(k:KNN R),gJ R z1 z2 a1 a2 k=k d1 d2
 hD:IsZ d1 d2 D
section
variable{a1 a2 s1 s2 p z1 z2 d1 d2:Nat}{X Y S T:Int}{D z:Cp}
theorem aVx(h:ElD 1 a1 a2 s1 s2 p X Y S T)(g:aC2 a1 a2 z1 z2 d1 d2 D z)(R:Type)(k:vT R):spdK R 1 a1 a2 s1 s2 p z1 z2 k=k s1 s2 0:=by obtain⟨t,ht⟩:=aPk g.hD;show vS1 a1 a2 s1 s2 p z1 z2 _ _=_;unfold vS1 wU;rw[h.chk];simp only[decide_true];rw[aFd g.hz.1 g.hz.2 (by have:=g.bz.re;grind) (by have:=g.bz.im;grind),aJ];simp only;rw[g.hs,ht,aJ];cases t<;>exact aAz (aJc h.hs) _ _
theorem aMw{P W:Cp}(hP:P≠Z9->Ng P (1/10))(bP:Nm P 20000){n:Nat}(hn:n<=9)(gW:Ng W (mD^n/2))(nW:Nm W (2*rD^n)):P=Z9\/(Ng (P*W.inv) (1/10*(2*rD^n)⁻¹)/\Nm (P*W.inv) (20000*(mD^n/2)⁻¹)/\(2:Rat)^(-300:Int)<=1/10*(2*rD^n)⁻¹/\20000*(mD^n/2)⁻¹<=(2:Rat)^(299:Int)):=by
 by_cases h:P=Z9;· exact .inl h
 ·have m0:0<mD^n/2:=by have:=Rat.pow_pos aAa (n:=n);grind
  have r0:0<2*rD^n:=by have:=Rat.pow_pos (show 0<rD by have:=yA;grind) (n:=n);grind
  obtain⟨i1,i2⟩:=sC gW m0 nW r0;refine .inr ⟨(hP h).mul i2,bP.mul i1,?_,?_⟩
  ·have e:=Rat.mul_inv_cancel (2*rD^n) (by grind);have p:=Rat.inv_pos.2 r0;have b:2*rD^n<=(2:Rat)^(200:Int):=by have h1:=eU (r:=rD) yA (show n<=10 by omega);have h2:=aMy;unfold iG at h2;have:=Rat.pow_pos (show 0<rD by have:=yA;grind) (n:=10);grind
   have c1:=jG 200;have q:=bG (-200);have h3:=cG (cG b (bN p)) (bN q);rw[e]at h3;have h5:=cY (show(-300:Int)<=-200+-4 by decide);rw[bO]at h5;have h4:(2:Rat)^(-4:Int)<=1/10:=by
    have c4:=jG 4;have e4:(2:Rat)^(4:Int)=16:=by rw[show(4:Int)=((4:Nat):Int) by rfl,cN];rfl
    rw[e4]at c4;grind
   have h7:(2:Rat)^(200:Int)*(2*rD^n)⁻¹*(2:Rat)^(-200:Int)=(2*rD^n)⁻¹:=by rw[Rat.mul_comm ((2:Rat)^(200:Int)),Rat.mul_assoc,c1,Rat.mul_one]
   rw[h7]at h3;grind
  ·have e:=Rat.mul_inv_cancel (mD^n/2) (by grind);have p:=Rat.inv_pos.2 m0;have ex:(mD^n/2)⁻¹=2*(2:Rat)^(((30*n:Nat):Int)):=by
    have c:=jG ((30*n:Nat):Int);rw[aSk]at e⊢;generalize (2:Rat)^(-((30*n:Nat):Int))=A at *
    generalize (2:Rat)^(((30*n:Nat):Int))=C at *
    generalize (A/2)⁻¹=B' at *
    have:B'=B'*(C*A):=by rw[c,Rat.mul_one]
    rw[this];have:B'*(C*A)=C*2*(A/2*B'):=by grind
    rw[this,e];grind
   rw[ex];have h1:=cY (show(((30*n:Nat):Int))<=270 by omega);have h2:=cY (show(270+16:Int)<=299 by decide);rw[bO,show(2:Rat)^(16:Int)=65536 by rw[show(16:Int)=((16:Nat):Int) by rfl,cN];rfl]at h2;grind
theorem aLt(h:ElD 3 a1 a2 s1 s2 p X Y S T)(g:aC2 a1 a2 z1 z2 d1 d2 D z)(gm:Ng D mD)(nr:Nm D rD){n:Nat}{f:Nat}(h1:1<=n)(hn:n<=8)(hf:Is f ((-(n:Int):Int):Rat)):
  ∃x y V,IsZ x y V/\Rl V (gz (S*-(n:Int)) (T*-(n:Int))*D.inv.pw (n+1)) (100*eps)/\∀(R:Type)(er:KIO R)(k:KNN R),
   wU (cT cK cJ bJ eC) cK bJ gJ 3 p (λx=>x) a1 a2 s1 s2 z1 z2 er (λ_ _=>er 6) (λd1 d2=>vB rN eQ lL (some f) ((n+1:Nat):Int) s1 s2 d1 d2 (jI aP er k))=k x y:=by
 have ep:=bI;have et:=bR;have hD0:=vF gm aAa;have bs:∀{U:Int},U.natAbs<=1000->(U*-(n:Int)).natAbs<=8000:=λ{U} hU=>by rw[Int.natAbs_mul,Int.natAbs_neg,Int.natAbs_natCast];exact Nat.le_trans (Nat.mul_le_mul hU hn) (by decide)
 obtain⟨t1,t2,ht,hsc⟩:=aTt h.hs hf (Nat.lt_of_le_of_lt (bs h.bS) (by decide)) (Nat.lt_of_le_of_lt (bs h.bT) (by decide));obtain⟨w1,w2,W,iW,rW,hw⟩:=aF5 g.hD gm nr yA bIn aMy bTt (n:=n+1) (by omega);have gW:=rW.ng (yR gm (n+1)) (by grind);have nW:=rW.nm (xV nr (n+1)) (by grind);have hP:gz (S*-(n:Int)) (T*-(n:Int))≠Z9->Ng (gz (S*-(n:Int)) (T*-(n:Int))) (1/10):=λhz=>(aBh hz).mono (by grind) (by grind)
 have nP:Nm (gz (S*-(n:Int)) (T*-(n:Int))) 20000:=(aI8 (B:=8000) (bs h.bS) (bs h.bT)).mono (by rw[show((8000:Nat):Rat)=8000 by norm_cast];grind);obtain⟨x,y,V,iV,rV,hd⟩:=aIr (aJc ht) iW gW nW (by
  have:=cY (show(-299:Int)<=-(((30*(n+1):Nat):Int))+-1 by omega);rw[bO,<-aSk,show(2:Rat)^(-1:Int)=1/2 by rw[Rat.zpow_neg];rw[show(2:Rat)^(1:Int)=2 by simp];grind]at this;grind) (by
  have q1:=eU (r:=rD) yA (show n+1<=10 by omega);have q2:=aMy;have q3:=cY (show(200:Int)<=300 by decide);unfold iG at q2;grind) (aMw hP nP (show n+1<=9 by omega) gW nW)
 refine⟨x,y,V,iV,?_,λR er k=>?_⟩;· have q:=(rW.inv (by grind) (aSy hD0 (n+1))).1;rw[aY5 hD0]at q;have t:=rV.trans ((Rl.refl (gz (S*-(n:Int)) (T*-(n:Int))) Rat.le_refl).mul q);refine t.mono ?_;have ee:=cG et (bN ep);grind
 ·rw[aNk h g.hz g.bz g.hs g.hD hD0 (λ_=>rfl)];unfold vB;simp only;rw[hsc,hw,hd,aAz iV]
theorem aQd(h:ElD 2 a1 a2 s1 s2 p X Y S T)(g:aC2 a1 a2 z1 z2 d1 d2 D z)(gm:Ng D mD)(nr:Nm D rD){c1 c2:Nat}{C:Cp}(hc:∀(R:Type)(k:KNN R),eQ R s1 s2 4594902181429758083 k=k c1 c2)(iC:IsZ c1 c2 C)(hP:C≠Z9->Ng C (1/10))(nP:Nm C 20000):
  ∃x y V,IsZ x y V/\Rl V (C*D.inv.pw 1) (100*eps)/\∀(R:Type)(k:vT R),spdK R 2 a1 a2 s1 s2 p z1 z2 k=k x y 0:=by
 have ep:=bI;have hD0:=vF gm aAa;have gW:Ng D (mD^1/2):=gm.mono (by have:=aAa;rw[show mD^1=mD by rw[Rat.pow_succ,Rat.pow_zero];grind];grind) (by have:=aAa;rw[show mD^1=mD by rw[Rat.pow_succ,Rat.pow_zero];grind];grind);have nW:Nm D (2*rD^1):=nr.mono (by have:=yA;rw[show rD^1=rD by rw[Rat.pow_succ,Rat.pow_zero];grind];grind);obtain⟨x,y,V,iV,rV,hd⟩:=aIr iC g.hD gm nr (by rw[bTs];exact cY (by decide)) (by have q1:=eU (r:=rD) yA (show 1<=10 by omega);rw[show rD^1=rD by rw[Rat.pow_succ,Rat.pow_zero];grind]at q1;have q2:=aMy;have q3:=cY (show(200:Int)<=300 by decide);unfold iG at q2;grind) (aMw hP nP (n:=1) (by decide) gW nW);refine⟨x,y,V,iV,?_,λR k=>?_⟩;· rw[Cp.pw_one];exact rV.mono (by grind)
 ·show vO1 a1 a2 s1 s2 p z1 z2 _ _=_;unfold vO1;rw[bCk h g.hz g.bz g.hs g.hD hD0 hc];rw[hd,aAz iV]
theorem aOb(h:ElD 4 a1 a2 s1 s2 p X Y S T)(g:aC2 a1 a2 z1 z2 d1 d2 D z)(gm:Ng D mD)(nr:Nm D rD){n:Nat}{f:Nat}(hn:n<=3)(hf:Is f (((n+1:Nat):Int):Rat)){pre:∀R:Type,Option R->Option R}(hpre:∀(R:Type)(x:Option R),pre R x=x):
  ∃x y V,IsZ x y V/\Rl V (gz (S*((n+1:Nat):Int)) (T*((n+1:Nat):Int))*D.pw n) (100*eps)/\∀(R:Type)(er:KIO R)(at0:KNN R)(k:KNN R),
   wU (cT cK cJ bJ eC) cK bJ gJ 4 p (pre R) a1 a2 s1 s2 z1 z2 er at0 (λd1 d2=>vA dV eQ lL (some f) (n:Int) s1 s2 d1 d2 (jI aP er k))=k x y:=by
 have ep:=bI;have et:=bR;have hD0:=vF gm aAa;have bs:∀{U:Int},U.natAbs<=1000->(U*((n+1:Nat):Int)).natAbs<=8000:=λ{U} hU=>by rw[Int.natAbs_mul,Int.natAbs_natCast];exact Nat.le_trans (Nat.mul_le_mul hU (show n+1<=8 by omega)) (by decide)
 obtain⟨t1,t2,ht,hsc⟩:=aTt h.hs hf (Nat.lt_of_le_of_lt (bs h.bS) (by decide)) (Nat.lt_of_le_of_lt (bs h.bT) (by decide));obtain⟨w1,w2,W,iW,rW,hw⟩:=aF5 g.hD gm nr yA bIn aMy bTt (n:=n) (by omega);have gW:=rW.ng (yR gm n) (by grind);have nW:=rW.nm (xV nr n) (by grind);have nP:Nm (gz (S*((n+1:Nat):Int)) (T*((n+1:Nat):Int))) 20000:=(aI8 (B:=8000) (bs h.bS) (bs h.bT)).mono (by rw[show((8000:Nat):Rat)=8000 by norm_cast];grind);obtain⟨x,y,V,iV,rV,hd⟩:=vE (aJc ht) iW nP nW (by
  have q1:=eU (r:=rD) yA (show n<=5 by omega);have q2:16*(20000*(2*rD^5))+1<=iG:=by rw[bZ];unfold rD;decide +kernel
  grind) (by
  by_cases hz:gz (S*((n+1:Nat):Int)) (T*((n+1:Nat):Int))=Z9;· exact .inl hz
  ·refine .inr (.inr ⟨(aBh hz).mul gW,?_⟩);have:=aHw (q:=30*n) (by omega);rw[<-aSk]at this;have t0:=aCr;generalize mD^n=A at *
   clear hpre hw hsc rW bs h g;grind)
 refine⟨x,y,V,iV,?_,λR er at0 k=>?_⟩;· have t:=rV.trans ((Rl.refl (gz (S*((n+1:Nat):Int)) (T*((n+1:Nat):Int))) Rat.le_refl).mul rW);refine t.mono ?_;have ee:=cG et (bN ep);grind
 ·rw[aNk h g.hz g.bz g.hs g.hD hD0 (λx=>hpre R x)];unfold vA;simp only;rw[hsc,hw,hd,aAz iV]
theorem bN6(R:Type)(k:vT R):spdK R 3 a1 a2 s1 s2 4607182418800017408 z1 z2 k=bGj a1 a2 s1 s2 4607182418800017408 z1 z2 (λe=>k 0 0 e) (λx y=>k x y 0):=by kernel_rfl
theorem bN7(R:Type)(k:vT R):spdK R 3 a1 a2 s1 s2 4611686018427387904 z1 z2 k=bGk a1 a2 s1 s2 4611686018427387904 z1 z2 (λe=>k 0 0 e) (λx y=>k x y 0):=by kernel_rfl
theorem bN8(R:Type)(k:vT R):spdK R 3 a1 a2 s1 s2 4613937818241073152 z1 z2 k=bGl a1 a2 s1 s2 4613937818241073152 z1 z2 (λe=>k 0 0 e) (λx y=>k x y 0):=by kernel_rfl
theorem bN9(R:Type)(k:vT R):spdK R 3 a1 a2 s1 s2 4616189618054758400 z1 z2 k=bGm a1 a2 s1 s2 4616189618054758400 z1 z2 (λe=>k 0 0 e) (λx y=>k x y 0):=by kernel_rfl
theorem bOa(R:Type)(k:vT R):spdK R 3 a1 a2 s1 s2 4617315517961601024 z1 z2 k=bGn a1 a2 s1 s2 4617315517961601024 z1 z2 (λe=>k 0 0 e) (λx y=>k x y 0):=by kernel_rfl
theorem bOb(R:Type)(k:vT R):spdK R 3 a1 a2 s1 s2 4618441417868443648 z1 z2 k=bGo a1 a2 s1 s2 4618441417868443648 z1 z2 (λe=>k 0 0 e) (λx y=>k x y 0):=by kernel_rfl
theorem bOc(R:Type)(k:vT R):spdK R 3 a1 a2 s1 s2 4619567317775286272 z1 z2 k=bGp a1 a2 s1 s2 4619567317775286272 z1 z2 (λe=>k 0 0 e) (λx y=>k x y 0):=by kernel_rfl
theorem bOd(R:Type)(k:vT R):spdK R 3 a1 a2 s1 s2 4620693217682128896 z1 z2 k=bGq a1 a2 s1 s2 4620693217682128896 z1 z2 (λe=>k 0 0 e) (λx y=>k x y 0):=by kernel_rfl
theorem bOe(R:Type)(k:vT R):spdK R 4 a1 a2 s1 s2 4607182418800017408 z1 z2 k=bGf a1 a2 s1 s2 4607182418800017408 z1 z2 (λe=>k 0 0 e) (λx y=>k x y 0):=by kernel_rfl
theorem bOf(R:Type)(k:vT R):spdK R 4 a1 a2 s1 s2 4611686018427387904 z1 z2 k=bGg a1 a2 s1 s2 4611686018427387904 z1 z2 (λe=>k 0 0 e) (λx y=>k x y 0):=by kernel_rfl
theorem bOg(R:Type)(k:vT R):spdK R 4 a1 a2 s1 s2 4613937818241073152 z1 z2 k=bGh a1 a2 s1 s2 4613937818241073152 z1 z2 (λe=>k 0 0 e) (λx y=>k x y 0):=by kernel_rfl
theorem bOh(R:Type)(k:vT R):spdK R 4 a1 a2 s1 s2 4616189618054758400 z1 z2 k=bGi a1 a2 s1 s2 4616189618054758400 z1 z2 (λe=>k 0 0 e) (λx y=>k x y 0):=by kernel_rfl
def wrd:Nat->Nat|1=>4607182418800017408|2=>4611686018427387904|3=>4613937818241073152|4=>4616189618054758400|5=>4617315517961601024|6=>4618441417868443648|7=>4619567317775286272|8=>4620693217682128896|_=>0
theorem aQg{n:Nat}(h1:1<=n)(h8:n<=8)(h:ElD 3 a1 a2 s1 s2 (wrd n) X Y S T)(g:aC2 a1 a2 z1 z2 d1 d2 D z)(gm:Ng D mD)(nr:Nm D rD):
  ∃x y V,IsZ x y V/\Rl V (gz (S*-(n:Int)) (T*-(n:Int))*D.inv.pw (n+1)) (100*eps)/\∀(R:Type)(k:vT R),spdK R 3 a1 a2 s1 s2 (wrd n) z1 z2 k=k x y 0:=by
 have use:∀{f:Nat},Is f ((-(n:Int):Int):Rat)->(∀(R:Type)(k:vT R),spdK R 3 a1 a2 s1 s2 (wrd n) z1 z2 k=wU (cT cK cJ bJ eC) cK bJ gJ 3 (wrd n) (λx=>x) a1 a2 s1 s2 z1 z2 (λe=>k 0 0 e) (λ_ _=>k 0 0 6) (λd1 d2=>vB rN eQ lL (some f) ((n+1:Nat):Int) s1 s2 d1 d2 (jI aP (λe=>k 0 0 e) λx y=>k x y 0)))->
   ∃x y V,IsZ x y V/\Rl V (gz (S*-(n:Int)) (T*-(n:Int))*D.inv.pw (n+1)) (100*eps)/\∀(R:Type)(k:vT R),spdK R 3 a1 a2 s1 s2 (wrd n) z1 z2 k=k x y 0:=λ{f} hf he=>by
  obtain⟨x,y,V,g1,g2,g3⟩:=aLt h g gm nr h1 h8 hf;exact⟨x,y,V,g1,g2,λR k=>(he R k).trans (g3 R (λe=>k 0 0 e) λx y=>k x y 0)⟩
 rcases(by omega:n=1\/n=2\/n=3\/n=4\/n=5\/n=6\/n=7\/n=8) with rfl|rfl|rfl|rfl|rfl|rfl|rfl|rfl;· exact use (f:=13830554455654793216) (vC (by decide) (by decide)) λR k=>bN6 R k
 ·exact use (f:=13835058055282163712) (vC (by decide) (by decide)) λR k=>bN7 R k
 ·exact use (f:=13837309855095848960) (vC (by decide) (by decide)) λR k=>bN8 R k
 ·exact use (f:=13839561654909534208) (vC (by decide) (by decide)) λR k=>bN9 R k
 ·exact use (f:=13840687554816376832) (vC (by decide) (by decide)) λR k=>bOa R k
 ·exact use (f:=13841813454723219456) (vC (by decide) (by decide)) λR k=>bOb R k
 ·exact use (f:=13842939354630062080) (vC (by decide) (by decide)) λR k=>bOc R k
 ·exact use (f:=13844065254536904704) (vC (by decide) (by decide)) λR k=>bOd R k
theorem cBi(n:Nat)(h1:1<=n)(h4:n<=4)(R:Type)(x:Option R):wyK R (wrd n) x=x:=by
 have e:∀{w:Nat}{N:Int},Is w N->eqF (aF4 w) w=true->wyK R w x=x:=λ{w N} hw he=>by unfold wyK;rw[aF3 hw,he]
 rcases(by omega:n=1\/n=2\/n=3\/n=4) with rfl|rfl|rfl|rfl;· exact e l1 (by decide)
 ·exact e l2 (by decide)
 ·exact e l3 (by decide)
 ·exact e l4 (by decide)
theorem aVw{n:Nat}(h1:1<=n)(h4:n<=4)(h:ElD 4 a1 a2 s1 s2 (wrd n) X Y S T)(g:aC2 a1 a2 z1 z2 d1 d2 D z)(gm:Ng D mD)(nr:Nm D rD):
  ∃x y V,IsZ x y V/\Rl V (gz (S*(n:Int)) (T*(n:Int))*D.pw (n-1)) (100*eps)/\∀(R:Type)(k:vT R),spdK R 4 a1 a2 s1 s2 (wrd n) z1 z2 k=k x y 0:=by
 have use:∀{m:Nat},n=m+1->m<=3->Is (wrd n) (((m+1:Nat):Int):Rat)->(∀(R:Type)(k:vT R),∃at0,spdK R 4 a1 a2 s1 s2 (wrd n) z1 z2 k=wU (cT cK cJ bJ eC) cK bJ gJ 4 (wrd n) (wyK R (wrd n)) a1 a2 s1 s2 z1 z2 (λe=>k 0 0 e) at0 (λd1 d2=>vA dV eQ lL (some (wrd n)) (m:Int) s1 s2 d1 d2 (jI aP (λe=>k 0 0 e) λx y=>k x y 0)))->
   ∃x y V,IsZ x y V/\Rl V (gz (S*(n:Int)) (T*(n:Int))*D.pw (n-1)) (100*eps)/\∀(R:Type)(k:vT R),spdK R 4 a1 a2 s1 s2 (wrd n) z1 z2 k=k x y 0:=λ{m} hm h3 hf he=>by
  obtain⟨x,y,V,g1,g2,g3⟩:=aOb h g gm nr h3 hf (pre:=λR=>wyK R (wrd n)) (λR x=>cBi n h1 h4 R x);subst hm;refine⟨x,y,V,g1,g2,λR k=>?_⟩;obtain⟨at0,q⟩:=he R k;exact q.trans (g3 R (λe=>k 0 0 e) at0 λx y=>k x y 0)
 rcases(by omega:n=1\/n=2\/n=3\/n=4) with rfl|rfl|rfl|rfl;· exact use (m:=0) rfl (by decide) l1 λR k=>⟨_,bOe R k⟩
 ·exact use (m:=1) rfl (by decide) l2 λR k=>⟨_,bOf R k⟩
 ·exact use (m:=2) rfl (by decide) l3 λR k=>⟨_,bOg R k⟩
 ·exact use (m:=3) rfl (by decide) l4 λR k=>⟨_,bOh R k⟩
end
open Go.Vm
def bQi:List Fc->Bool
 |[]=>true
 |.geo _ _::L=>bQi L
 |.lin _ _::_=>false
theorem aLv{σ:Rat}(h:0<=σ)(m:Nat)(L:List Fc):0<=eL σ m L:=by unfold eL;have t0:=qE m;have k1:=uY L;have s0:0<=σ*((m+rM L:Nat):Rat):=bU h (by exact_mod_cast Nat.zero_le _);have:=bU (cR (by decide) k1) t0;grind
section
variable{ρ σ:Rat}{n:Nat}{x:Nat->Cp}(hx:Pts ρ σ n x)
include hx
theorem aJ2(hn:0<n):∀(L:List Fc),OkL ρ L->bQi L=true->Nm (csm (λk=>cC L (x k)) n-C9 (n:Rat)) ((n:Rat)*(wL L*eL σ 1 L)):=by
 have n0:(0:Rat)<=(n:Rat):=by exact_mod_cast Nat.zero_le n
 intro L;induction L with
 |nil=>intro hL _;have e:csm (λk=>cC [] (x k)) n=C9 (n:Rat):=aOe n;rw[e,Cp.sub_self];exact jM.mono (bU n0 (by unfold wL;rw[Rat.one_mul];exact aLv hx.sig _ _))
 |cons f L ih=>
  intro hL hg;obtain⟨h1,h2⟩:=aAf hL;cases f with
  |lin a q=>cases hg
  |geo b q=>
   have ih:=ih h2 hg;obtain⟨r,r1,r0,r2,r3,w1,w2,q1⟩:=aI7 hx hL hn;have hs:=tD hx hn _ hL 1 (L9 1);have e:csm (λk=>cC (.geo b q::L) (x k)) n-C9 (n:Rat)=(csm (λk=>cC L (x k)) n-C9 (n:Rat))+b*csm (λk=>(x k).pw 1*cC (.geo b q::L) (x k)) n:=by
    rw[<-lR];have:csm (λk=>cC (.geo b q::L) (x k)) n=csm (λk=>cC L (x k)) n+csm (λk=>b*((x k).pw 1*cC (.geo b q::L) (x k))) n:=by
     rw[<-oN];refine cA λk hk=>?_
     show(Fc.geo b q).at (x k)*cC L (x k)=cC L (x k)+b*((x k).pw 1*((Fc.geo b q).at (x k)*cC L (x k)));have g:=aR0 hx.one h1 (hx.at_ k hk);rw[Cp.pw_one];generalize (Fc.geo b q).at (x k)=u at *
     rw[<-M9 (x k),<-M9 b]
     conv=>lhs;rw[g]
     rw[Cp.add_mul,Cp.one_mul]
    rw[this];exact E9 (by simp only[Cp.add_re,S9];grind) (by simp only[Cp.add_im,T9];grind)
   rw[e];refine(ih.add (r1.mul hs)).mono ?_;rw[w1];have W0:0<=wL (.geo b q::L):=cR (by decide) (gH hx.one hL (hx.at_ 0 hn)).2;unfold eL;show(n:Rat)*((1-q)*wL (.geo b q::L)*(σ*((1+rM L:Nat):Rat)+2*wG L*th 1))+r*((n:Rat)*(wL (.geo b q::L)*(σ*((1+(2+rM L):Nat):Rat)+2*(9/4*wG L)*th 1)))<=(n:Rat)*(wL (.geo b q::L)*(σ*((1+(2+rM L):Nat):Rat)+2*(9/4*wG L)*th 1));have c1:((1+(2+rM L):Nat):Rat)=((1+rM L:Nat):Rat)+2:=by push_cast;grind
   rw[c1];have s0:=hx.sig;have k1:=uY L;have t0:=qE 1;have kt:=bU (cR (by decide) k1) t0;have s1:=bU hx.sig (show(0:Rat)<=((1+rM L:Nat):Rat) by exact_mod_cast Nat.zero_le _);generalize wL (.geo b q::L)=W at *
   generalize ((1+rM L:Nat):Rat)=c at *
   generalize wG L=kk at *
   generalize th 1=t at *
   have nW:=bU n0 W0;have X0:0<=σ*(c+2)+2*(9/4*kk)*t:=by grind
   have a1:=cG r2 (bU nW X0);have a2:=dI (show(1-q)*(σ*c+2*kk*t)<=(1-q)*(σ*(c+2)+2*(9/4*kk)*t) from dI (by grind) (bN q1)) nW;grind
end
def FvG(inv be:Cp)(g:Nat->Cp):Nat->Cp
 |0=>Z9
 |q+1=>(g (q+1)+be*FvG inv be g q)*inv
def Fv(b:Cp):List Fc->Nat->Cp
 |[],q=>match q with
  |1=>O9
  |_=>Z9
 |.lin a _::L,q=>match q with
  |0=>Z9
  |q+1=>Fv b L q+(b-a)*Fv b L (q+1)
 |.geo be _::L,q=>FvG (O9-b*be).inv be (Fv b L) q
theorem aNt(b:Cp)(L:List Fc):Fv b L 0=Z9:=by
 match L with
 |[]=>rfl
 |.lin _ _::_=>rfl
 |.geo _ _::_=>rfl
theorem bQx{b be:Cp}{p:Rat}(L:List Fc)(q:Nat)(h:(O9-b*be).nsq≠0):(O9-b*be)*Fv b (.geo be p::L) (q+1)=Fv b L (q+1)+be*Fv b (.geo be p::L) q:=by show(O9-b*be)*((Fv b L (q+1)+be*Fv b (.geo be p::L) q)*(O9-b*be).inv)=_;rw[Cp.mul_left_comm,Cp.inv_mul h,Cp.mul_one]
def jU(b:Cp)(qb:Rat):Nat->List Fc
 |0=>[]
 |q+1=>.geo b qb::jU b qb q
theorem kN{ρ qb:Rat}{b:Cp}(h:(Fc.geo b qb).Ok ρ):∀q,OkL ρ (jU b qb q)
 |0=>λf hf=>by simp[jU]at hf
 |q+1=>λf hf=>by
  rcases List.mem_cons.1 hf with rfl|hf;· exact h
  ·exact kN h q f hf
theorem aAn(b:Cp)(qb:Rat):∀q,bQi (jU b qb q)=true
 |0=>rfl
 |q+1=>aAn b qb q
theorem aCm(b:Cp)(qb:Rat):∀q,wL (jU b qb q)=((1-qb)⁻¹)^q
 |0=>by rw[Rat.pow_zero];rfl
 |q+1=>by rw[Rat.pow_succ,<-aCm b qb q,Rat.mul_comm];rfl
theorem uI(b:Cp)(qb:Rat)(x:Cp):∀q,cC (jU b qb q) x=((Fc.geo b qb).at x).pw q
 |0=>rfl
 |q+1=>by show(Fc.geo b qb).at x*cC (jU b qb q) x=((Fc.geo b qb).at x).pw q*(Fc.geo b qb).at x;rw[uI b qb x q,Cp.mul_comm]
theorem pO(b:Cp)(qb:Rat):∀q,rM (jU b qb q)=2*q
 |0=>rfl
 |q+1=>by show 2+rM (jU b qb q)=_;rw[pO b qb q];omega
theorem tE(b:Cp)(qb:Rat):∀q,wG (jU b qb q)=(9/4)^q
 |0=>by rw[Rat.pow_zero];rfl
 |q+1=>by rw[Rat.pow_succ,<-tE b qb q,Rat.mul_comm];rfl
def inV(b:Cp)(qb:Rat)(q:Nat)(w:Cp):Cp:=w.pw q*((Fc.geo b qb).at w).pw q
theorem bD7(b:Cp)(qb:Rat)(q:Nat)(w:Cp):inV b qb (q+1) w=inV b qb q w*(w*(Fc.geo b qb).at w):=by unfold inV;simp only[Cp.pw];rw[M9,M9,Cp.mul_left_comm w]
section
variable{ρ σ:Rat}{n:Nat}{z w:Nat->Cp}(hz:Pts ρ σ n z)(hw:Pts ρ σ n w)(hzw:∀k,k<n->z k*w k=O9)
include hz hw hzw
theorem aY1{b:Cp}{qb:Rat}(hb:(Fc.geo b qb).Ok ρ){q:Nat}{k:Nat}(hk:k<n):(z k-b)*inV b qb (q+1) (w k)=inV b qb q (w k):=by
 have e:=Cp.inv_mul (aEg hw.one hb (hw.at_ k hk)).2.1;rw[bD7,Cp.mul_left_comm];have:(z k-b)*(w k*(Fc.geo b qb).at (w k))=O9:=by rw[<-M9,Cp.sub_mul,hzw k hk];exact e
 rw[this,Cp.mul_one]
theorem aJ0(hn:0<n){b:Cp}{qb:Rat}(hb:(Fc.geo b qb).Ok ρ){E:Rat}(hE0:∀q,1<=q->q<=9->eL σ (if q=1 then 1 else q-1) (jU b qb q)<=E):∀(L:List Fc),OkL ρ L->(∀M,M <:+ L->eL σ 1 M<=E)->∀q,q<=9->
  Nm (csm (λk=>z k*(inV b qb q (w k)*cC L (z k))) n-C9 (n:Rat)*Fv b L q) ((n:Rat)*(wL (jU b qb q)*wL L*E)):=by
 have n0:(0:Rat)<=(n:Rat):=by exact_mod_cast Nat.zero_le n
 have zero_q:∀(L:List Fc),OkL ρ L->eL σ 1 L<=E->Nm (csm (λk=>z k*(inV b qb 0 (w k)*cC L (z k))) n-C9 (n:Rat)*Fv b L 0) ((n:Rat)*(wL (jU b qb 0)*wL L*E)):=λL hL hE=>by
  have h:=tD hz hn L hL 1 (L9 1);rw[aNt,Cp.mul_zero];have e:csm (λk=>z k*(inV b qb 0 (w k)*cC L (z k))) n-Z9=csm (λk=>(z k).pw 1*cC L (z k)) n:=by
   rw[show csm (λk=>z k*(inV b qb 0 (w k)*cC L (z k))) n-Z9=csm (λk=>z k*(inV b qb 0 (w k)*cC L (z k))) n from E9 (by simp only[S9,Cp.zero_re];grind) (by simp only[T9,Cp.zero_im];grind)];refine cA λk _=>?_
   rw[Cp.pw_one];show z k*(O9*O9*cC L (z k))=_;rw[Cp.one_mul,Cp.one_mul]
  rw[e];refine h.mono (dI ?_ n0);show wL L*eL σ 1 L<=1*wL L*E;rw[Rat.one_mul];exact dI hE (cR (by decide) (gH hz.one hL (hz.at_ 0 hn)).2)
 intro L;induction L with
 |nil=>
  intro hL hE q hq;cases q with
  |zero=>exact zero_q [] hL (hE [] (List.suffix_refl _))
  |succ q=>
   have hEq:=hE0 (q+1) (by omega) hq;have W0:0<=wL (jU b qb (q+1)):=cR (by decide) (gH hw.one (kN hb (q+1)) (hw.at_ 0 hn)).2;have e:∀k,k<n->z k*(inV b qb (q+1) (w k)*cC [] (z k))=(w k).pw q*cC (jU b qb (q+1)) (w k):=λk hk=>by show z k*(inV b qb (q+1) (w k)*O9)=_;rw[Cp.mul_one,uI];unfold inV;simp only[Cp.pw];rw[M9 ((w k).pw q) (w k),Cp.mul_left_comm (z k),<-M9 (z k) (w k),hzw k hk,Cp.one_mul]
   rw[cA e];cases q with
   |zero=>
    have h:=aJ2 hw hn (jU b qb 1) (kN hb 1) (aAn b qb 1);have e2:csm (λk=>(w k).pw 0*cC (jU b qb (0+1)) (w k)) n-C9 (n:Rat)*Fv b [] (0+1)=csm (λk=>cC (jU b qb 1) (w k)) n-C9 (n:Rat):=by
     have:csm (λk=>(w k).pw 0*cC (jU b qb (0+1)) (w k)) n=csm (λk=>cC (jU b qb 1) (w k)) n:=cA λk _=>Cp.one_mul _
     rw[this];show _-C9 (n:Rat)*O9=_;rw[Cp.mul_one]
    rw[e2];refine h.mono (dI ?_ n0);rw[if_pos rfl]at hEq;show _<=wL (jU b qb 1)*1*E;rw[Rat.mul_one];exact dI hEq W0
   |succ q=>
    have h:=tD hw hn (jU b qb (q+1+1)) (kN hb _) (q+1) (by omega);have e2:csm (λk=>(w k).pw (q+1)*cC (jU b qb (q+1+1)) (w k)) n-C9 (n:Rat)*Fv b [] (q+1+1)=csm (λk=>(w k).pw (q+1)*cC (jU b qb (q+1+1)) (w k)) n:=by show _-C9 (n:Rat)*Z9=_;rw[Cp.mul_zero];exact E9 (by simp only[S9,Cp.zero_re];grind) (by simp only[T9,Cp.zero_im];grind)
    rw[e2];refine h.mono (dI ?_ n0);rw[if_neg (by omega),show q+1+1-1=q+1 by omega]at hEq;show _<=wL (jU b qb (q+1+1))*1*E;rw[Rat.mul_one];exact dI hEq W0
 |cons f L ih=>
  intro hL hE;obtain⟨h1,h2⟩:=aAf hL;have hE':∀M,M <:+ L->eL σ 1 M<=E:=λM hM=>hE M (hM.trans (List.suffix_cons f L))
  have ih:=ih h2 hE';have E0:0<=E:=cR (aLv hz.sig 1 (f::L)) (hE _ (List.suffix_refl _));have w2:1<=wL L:=(gH hz.one h2 (hz.at_ 0 hn)).2;intro q;induction q with
  |zero=>exact λ_=>zero_q _ hL (hE _ (List.suffix_refl _))
  |succ q jh=>
   intro hq;have jh:=jh (by omega);obtain⟨rb,b1,b0,b2,b3,bw,_,bq⟩:=aI7 hw (L:=jU b qb q) (b:=b) (q:=qb) (kN hb (q+1)) hn;change wL (jU b qb q)=(1-qb)*wL (jU b qb (q+1)) at bw;have V0:0<=wL (jU b qb (q+1)):=cR (by decide) (gH hw.one (kN hb (q+1)) (hw.at_ 0 hn)).2;cases f with
   |lin a p=>
    obtain⟨ra,a1,a2⟩:=h1;have i1:=ih q (by omega);have i2:=ih (q+1) hq;have e:csm (λk=>z k*(inV b qb (q+1) (w k)*cC (.lin a p::L) (z k))) n-C9 (n:Rat)*Fv b (.lin a p::L) (q+1) =
      (csm (λk=>z k*(inV b qb q (w k)*cC L (z k))) n-C9 (n:Rat)*Fv b L q)+(b-a)*(csm (λk=>z k*(inV b qb (q+1) (w k)*cC L (z k))) n-C9 (n:Rat)*Fv b L (q+1)):=by
     show csm (λk=>z k*(inV b qb (q+1) (w k)*((z k-a)*cC L (z k)))) n-C9 (n:Rat)*(Fv b L q+(b-a)*Fv b L (q+1))=_;have:csm (λk=>z k*(inV b qb (q+1) (w k)*((z k-a)*cC L (z k)))) n=csm (λk=>z k*(inV b qb q (w k)*cC L (z k))) n+(b-a)*csm (λk=>z k*(inV b qb (q+1) (w k)*cC L (z k))) n:=by
      rw[<-lR,<-oN];refine cA λk hk=>?_
      have g:=aY1 hz hw hzw hb (q:=q) hk;rw[<-g];generalize inV b qb (q+1) (w k)=u;generalize cC L (z k)=v;refine E9 ?_ ?_;· simp only[Cp.add_re,S9,Cp.mul_re,T9,Cp.mul_im];grind
      ·simp only[Cp.add_im,S9,Cp.mul_re,T9,Cp.mul_im];grind
     rw[this];generalize csm (λk=>z k*(inV b qb q (w k)*cC L (z k))) n=A;generalize csm (λk=>z k*(inV b qb (q+1) (w k)*cC L (z k))) n=B;generalize Fv b L q=C;generalize Fv b L (q+1)=D;generalize C9 (n:Rat)=N;rw[Cp.mul_add,Cp.mul_sub,Cp.mul_left_comm N];exact E9 (by simp only[Cp.add_re,S9];grind) (by simp only[Cp.add_im,T9];grind)
    rw[e];refine(i1.add ((b1.sub a1).mul i2)).mono ?_;rw[bw];show _<=(n:Rat)*(wL (jU b qb (q+1))*((1+p)*wL L)*E);have hρ:=hz.one;generalize wL (jU b qb (q+1))=V at *
    generalize wL L=W at *
    have A:=bU n0 (bU (bU V0 (cR (by decide) w2)) E0);have m1:=cG (show 1-qb+(rb+ra)<=1+p by grind) A;grind
   |geo be p=>
    obtain⟨rc,c1,c0,c2,c3,cw,_,cq⟩:=aI7 hz (L:=L) (b:=be) (q:=p) hL hn;have i2:=ih (q+1) hq;have nbc:Nm (b*be) (rb*rc):=b1.mul c1;have rr2:rb*rc<=1/2:=by have:=aC (show rb<=21/40 by grind) (show rc<=21/40 by grind) c0 (show(0:Rat)<=21/40 by grind);grind
    have g1:Ng (O9-b*be) (1-rb*rc):=by rw[Cp.sub_eq];exact oG (r:=1) ⟨by decide,by unfold Cp.nsq;simp only[Cp.one_re,Cp.one_im];grind⟩ nbc.neg (by grind)
    have hn1:(O9-b*be).nsq≠0:=λe=>by have:=g1.2;rw[e]at this;have:=Rat.mul_pos (show 0<1-rb*rc by grind) (show 0<1-rb*rc by grind);grind
    have e:(O9-b*be)*(csm (λk=>z k*(inV b qb (q+1) (w k)*cC (.geo be p::L) (z k))) n-C9 (n:Rat)*Fv b (.geo be p::L) (q+1)) =
      (csm (λk=>z k*(inV b qb (q+1) (w k)*cC L (z k))) n-C9 (n:Rat)*Fv b L (q+1))+be*(csm (λk=>z k*(inV b qb q (w k)*cC (.geo be p::L) (z k))) n-C9 (n:Rat)*Fv b (.geo be p::L) q):=by
     have t1:(O9-b*be)*csm (λk=>z k*(inV b qb (q+1) (w k)*cC (.geo be p::L) (z k))) n=csm (λk=>z k*(inV b qb (q+1) (w k)*cC L (z k))) n+be*csm (λk=>z k*(inV b qb q (w k)*cC (.geo be p::L) (z k))) n:=by
      rw[<-lR,<-lR,<-oN];refine cA λk hk=>?_
      have g:=aY1 hz hw hzw hb (q:=q) hk;have g2:(O9-be*z k)*(Fc.geo be p).at (z k)=O9:=Cp.inv_mul (aEg hz.one h1 (hz.at_ k hk)).2.1;rw[<-g];show(O9-b*be)*(z k*(inV b qb (q+1) (w k)*((Fc.geo be p).at (z k)*cC L (z k))))=z k*(inV b qb (q+1) (w k)*cC L (z k))+be*(z k*((z k-b)*inV b qb (q+1) (w k)*((Fc.geo be p).at (z k)*cC L (z k))));generalize inV b qb (q+1) (w k)=u;generalize (Fc.geo be p).at (z k)=v at *
      generalize cC L (z k)=t;have:z k*(u*t)=(O9-be*z k)*v*(z k*(u*t)):=by rw[g2,Cp.one_mul]
      rw[this];generalize z k=y;have cc:O9-b*be=(O9-be*y)+be*(y-b):=E9 (by simp only[Cp.add_re,S9,Cp.mul_re,T9];grind) (by simp only[Cp.add_im,T9,Cp.mul_im,S9];grind);rw[cc,Cp.add_mul];congr 1;· rw[M9];congr 1;rw[Cp.mul_left_comm v,Cp.mul_left_comm v]
      ·rw[M9];congr 1;rw[M9 (y-b) u,Cp.mul_left_comm y (y-b)]
     rw[Cp.mul_sub,t1,Cp.mul_left_comm,bQx L q hn1,Cp.mul_add,Cp.mul_sub,Cp.mul_left_comm (C9 (n:Rat)) be];generalize csm (λk=>z k*(inV b qb (q+1) (w k)*cC L (z k))) n=A;generalize csm (λk=>z k*(inV b qb q (w k)*cC (.geo be p::L) (z k))) n=B;generalize C9 (n:Rat)*Fv b L (q+1)=C;generalize be*(C9 (n:Rat)*Fv b (.geo be p::L) q)=D;exact E9 (by simp only[Cp.add_re,S9];grind) (by simp only[Cp.add_im,T9];grind)
    have hm:=i2.add (c1.mul jh);rw[<-e]at hm;have hm0:=hm.1;have tot:(n:Rat)*(wL (jU b qb (q+1))*wL L*E)+rc*((n:Rat)*(wL (jU b qb q)*wL (.geo be p::L)*E))<=(1-rb*rc)*((n:Rat)*(wL (jU b qb (q+1))*wL (.geo be p::L)*E)):=by
     rw[bw,cw];have Wc:0<=wL (.geo be p::L):=by have:=(gH hz.one hL (hz.at_ 0 hn)).2;grind
     generalize wL (jU b qb (q+1))=V at *
     generalize wL (.geo be p::L)=W at *
     have A:=bU n0 (bU (bU V0 Wc) E0);have q1:=cG b2 c0;have m1:=cG (show(1-p)+rc*(1-qb)<=1-rb*rc by grind) A;grind
    generalize csm (λk=>z k*(inV b qb (q+1) (w k)*cC (.geo be p::L) (z k))) n-C9 (n:Rat)*Fv b (.geo be p::L) (q+1)=X at *
    generalize (n:Rat)*(wL (jU b qb (q+1))*wL (.geo be p::L)*E)=T at *
    have T0:0<=T:=by
     refine Rat.not_lt.1 λhl=>?_
     have:=Rat.mul_lt_mul_of_pos_left hl (show 0<1-rb*rc by grind);grind
    refine⟨T0,?_⟩;have h3:=hm.mono tot;have h4:=h3.2;rw[Cp.nsq_mul]at h4;have h5:=cG g1.2 X.nsq_nonneg;have p1:=Rat.mul_pos (show 0<1-rb*rc by grind) (show 0<1-rb*rc by grind);generalize X.nsq=S at *
    generalize 1-rb*rc=d at *
    refine Rat.not_lt.1 λhl=>?_
    have:=Rat.mul_lt_mul_of_pos_left hl p1;grind
end
theorem bHp(f:Nat->Cp):∀n,(csm f n).cj=csm (λk=>(f k).cj) n
 |0=>E9 rfl (by show -(0:Rat)=0;grind)
 |n+1=>by simp only[csm];rw[Cp.cj_add,bHp f n]
def lD:Rat:=1+17*eps
def uL:Rat:=17*eps
theorem yT:1<=lD:=by have:=bI;unfold lD;grind
theorem uJ:lD<=1+1/100000000000000:=by unfold lD;rw[oP];grind
theorem aBz:0<=uL:=by have:=bI;unfold uL;grind
theorem aKe{m:Nat}(hm:m<=128):lD^m<=1+1/100000:=by
 have ep:=bI;have e1:eps<=1/1000000000000000:=by rw[oP];grind
 have m1:(m:Rat)<=128:=by exact_mod_cast hm
 have q:=cG m1 (show 0<=17*eps by grind);have:=aFe (e:=17*eps) (by grind) m (by grind);unfold lD;grind
section
variable{Q h:Rat}{n:Nat}(hQ:aUf Q)(n1:128<=n)(n2:n<=512)(hh:(n:Rat)*h=Q){z w:Nat->Cp}(hz:∀k,k<n->Nm (z k-om ((k:Rat)*h)) (16*eps))(hw:∀k,k<n->z k*w k=O9)
include hQ n1 n2 hh hz
theorem bW2{k:Nat}(hk:k<n):Nm (z k) lD:=by
 refine((hz k hk).near (bCz hQ n1 n2 hh (Nat.le_of_lt hk))).mono ?_;have k1:=pJ.2;unfold lD;have:=bI;generalize kP=e at *
 grind
theorem aSu{y o:Nat->Cp}(hy:∀k,k<n->Nm (y k) lD)(ho:∀k,k<n->Nm (o k) (1+6*kP))(hd:∀k,k<n->Nm (y k-o k) (16*eps*(1+1/1000))){m:Nat}(hm1:1<=m)(hm2:m<=127)(hs:Nm (csm (λk=>(o k).pw m) n) ((n:Rat)*((m:Rat)*(1/100000000000000000000000)))):Nm (csm (λk=>(y k).pw m) n) ((n:Rat)*(uL*(m:Rat))):=by
 have m0:(1:Rat)<=(m:Rat):=by exact_mod_cast hm1
 have n0:(0:Rat)<=(n:Rat):=by exact_mod_cast Nat.zero_le n
 have ep:=bI;have D:∀k,k<n->Nm ((y k).pw m-(o k).pw m) ((m:Rat)*(16*eps*(1+1/1000))*(1+1/100000)):=λk hk=>by
  refine(aJ4 (hy k hk) ((ho k hk).mono ?_) yT (hd k hk) m).mono (dI (aKe (by omega)) (bU (by grind) (by grind)));have k1:=pJ.2;unfold lD;generalize kP=e at *
  grind
 have t:=aHh D;rw[tJ]at t;refine(t.near hs).mono ?_;unfold uL;have e1:1/100000000000000000000000<=eps*(1/1000000):=by rw[oP];grind
 have a1:=dI e1 (show 0<=(m:Rat) by grind);have a2:=dI a1 n0;have a3:=bU n0 (bU (show 0<=(m:Rat) by grind) (bN ep));generalize (1:Rat)/100000000000000000000000=c at *
 grind
theorem bUx:Pts lD uL n z where
 one:=yT
 half:=by have:=uJ;grind
 big:=by have:=aKe (m:=128) (L9 _);grind
 sig:=aBz
 at_:=λk hk=>bW2 hQ n1 n2 hh hz hk
 sum:=λm h1 h2=>aSu hQ n1 n2 hh hz (o:=λk=>om ((k:Rat)*h)) (λk hk=>bW2 hQ n1 n2 hh hz hk) (λk hk=>bCz hQ n1 n2 hh (Nat.le_of_lt hk)) (λk hk=>(hz k hk).mono (by have:=bI;grind)) h1 h2 (bIt hQ n1 n2 hh h1 h2)
include hw
theorem bJn{k:Nat}(hk:k<n):Nm (w k-(om ((k:Rat)*h)).cj) (16*eps*(1+1/1000)):=by
 have ep:=bI;have e1:eps<=1/1000000000000000:=by rw[oP];grind
 have k1:=pJ.2;have k2:=qN;have o1:=bCz hQ n1 n2 hh (Nat.le_of_lt hk);have ol:=aZ7 (x:=(k:Rat)*h) (by have:=(aHe hQ n1 n2 hh (Nat.le_of_lt hk)).1;grind);have z1:=hz k hk;have a:Nm (C9 ((om ((k:Rat)*h)).nsq-1)) (20*kP):=oV ol;have b:=z1.mul o1.cj;have e:z k*(w k-(om ((k:Rat)*h)).cj)=-C9 ((om ((k:Rat)*h)).nsq-1)-(z k-om ((k:Rat)*h))*(om ((k:Rat)*h)).cj:=by
  rw[Cp.mul_sub,hw k hk,Cp.sub_mul,Cp.mul_cj];generalize (om ((k:Rat)*h)).nsq=N;generalize z k*(om ((k:Rat)*h)).cj=X;refine E9 ?_ ?_;· simp only[S9,Cp.neg_re,Cp.of_re,Cp.one_re];grind
  ·simp only[T9,Cp.neg_im,Cp.of_im,Cp.one_im];grind
 have t:=a.neg.sub b;rw[<-e]at t;have zl:Ng (z k) (9999/10000):=by
  have ob:Ng (om ((k:Rat)*h)) (99999/100000):=by
   refine⟨by grind,?_⟩;have g:=aA.1 ol;generalize (om ((k:Rat)*h)).nsq=N at *
   generalize kP=e at *
   grind
  have:=oG ob z1 (by grind);rw[show om ((k:Rat)*h)+(z k-om ((k:Rat)*h))=z k from E9 (by simp only[Cp.add_re,S9];grind) (by simp only[Cp.add_im,T9];grind)]at this;exact this.mono (by grind) (by grind)
 refine aE3 zl (by grind) (t.mono ?_);clear a b e t zl;generalize kP=e at *
 have q:=cG k2 (bN ep);grind
theorem bV4{k:Nat}(hk:k<n):Nm (w k) lD:=by
 refine((bJn hQ n1 n2 hh hz hw hk).near (bCz hQ n1 n2 hh (Nat.le_of_lt hk)).cj).mono ?_;have k1:=pJ.2;have:=bI;unfold lD;generalize kP=e at *
 grind
theorem bUw:Pts lD uL n w where
 one:=yT
 half:=by have:=uJ;grind
 big:=by have:=aKe (m:=128) (L9 _);grind
 sig:=aBz
 at_:=λk hk=>bV4 hQ n1 n2 hh hz hw hk
 sum:=λm h1 h2=>aSu hQ n1 n2 hh hz (o:=λk=>(om ((k:Rat)*h)).cj) (λk hk=>bV4 hQ n1 n2 hh hz hw hk) (λk hk=>(bCz hQ n1 n2 hh (Nat.le_of_lt hk)).cj) (λk hk=>bJn hQ n1 n2 hh hz hw hk) h1 h2 (by have:=(bIt hQ n1 n2 hh h1 h2).cj;rw[bHp]at this;rw[cA (g:=λk=>((om ((k:Rat)*h)).pw m).cj) λk _=>(Cp.cj_pw _ m).symm];exact this)
end
open Go.Vm Ieee
theorem vV{x z B:Rat}(h:Rnd x z)(hx:x.abs<=B)(hB:(2:Rat)^(-1000:Int)<=B):(z-x).abs<=eps/4*B:=by
 have e:(2:Rat)^(-53:Int)=eps/4:=by have h6:=fA (-51);have h7:=fA (-52);rw[show(-51-1:Int)=-52 by decide]at h6;rw[show(-52-1:Int)=-53 by decide]at h7;unfold eps;grind
 have ep:=bI;rcases h.near with h1|h1;· rw[e]at h1;have:=cG hx (show 0<=eps/4 by grind);grind
 ·have h2:(2:Rat)^(-1075:Int)<=(2:Rat)^(-53:Int)*(2:Rat)^(-1000:Int):=by rw[<-bO];exact cY (by decide)
  rw[e]at h2;have:=dI hB (show 0<=eps/4 by grind);grind
theorem aTl{x z B:Rat}(h:bQc x z)(hx:x.abs<=B)(hB:(2:Rat)^(-1000:Int)<=B):(z-x).abs<=eps/2*B:=by
 have e:(2:Rat)^(-52:Int)=eps/2:=by have h6:=fA (-51);rw[show(-51-1:Int)=-52 by decide]at h6;unfold eps;grind
 have ep:=bI;rcases h.near with h1|h1;· rw[e]at h1;have:=cG hx (show 0<=eps/2 by grind);grind
 ·have h2:(2:Rat)^(-1074:Int)<=(2:Rat)^(-52:Int)*(2:Rat)^(-1000:Int):=by rw[<-bO];exact cY (by decide)
  rw[e]at h2;have:=dI hB (show 0<=eps/2 by grind);grind
theorem bNk:314159/100000<=piV/\piV<=314160/100000:=by rw[aTa];decide +kernel
theorem bNj{Q:Rat}(h:aUf Q):(2*piV-Q).abs<=56/100*eps:=by rw[h.eq,aTa,oP];unfold qP;decide +kernel
theorem bMs{x:Rat}(h:x.abs<=1000000):x.abs<(2:Rat)^(1022:Int):=by
 have h6:=cY (show(50:Int)<=1022 by decide);have h8:(2:Rat)^(50:Int)=1125899906842624:=by rw[show(50:Int)=((50:Nat):Int) by rfl,cN];rfl
 grind
theorem mZ:(2:Rat)^(-1000:Int)<=1/1000000:=cR (cY (show(-1000:Int)<=-20 by decide)) (by rw[aPt];decide +kernel)
theorem bOr{y p x τ e:Rat}(e0:0<e)(a1:-(16/10*e)<=y-p/\y-p<=16/10*e)(a2:-(56/100*e)<=p-x/\p-x<=56/100*e)(a3:-(e/2*(629/100))<=τ-y/\τ-y<=e/2*(629/100)):(τ-x).abs<=54/10*e:=
 aA.2 ⟨by grind,by grind⟩
theorem aK7{Q h A:Rat}{n k a:Nat}(hQ:aUf Q)(n1:128<=n)(n2:n<=512)(hh:(n:Rat)*h=Q)(hk:k<n)(hA:Is a A)(h0:0<=A)(dA:(A-2*(k:Rat)*piV).abs<=eps/4*(2*(k:Rat)*piV)):
  ∃t τ,Is t τ/\0<=τ/\τ<=64/10/\(τ-(k:Rat)*h).abs<=54/10*eps/\∀(R:Type)(K:KNO R),(bH (floatOfInt .f64 (n:Int)) λb=>aM (fbF .quo a b) K)=K t:=by
 have ep:=bI;have et:=bR;have hn:Is (floatOfInt .f64 (n:Int)) (n:Int):=pL (by omega);have nc:(((n:Nat):Int):Rat)=(n:Rat):=by exact_mod_cast rfl
 rw[nc]at hn;have n1':(128:Rat)<=(n:Rat):=by exact_mod_cast n1
 have n2':(n:Rat)<=512:=by exact_mod_cast n2
 have k0:(0:Rat)<=(k:Rat):=by exact_mod_cast Nat.zero_le k
 have kn:(k:Rat)<=(n:Rat):=by exact_mod_cast Nat.le_of_lt hk
 have pin:=bNk;have pc:=bNj hQ;obtain⟨x,hx⟩:∃x:Rat,(n:Rat)*x=(k:Rat):=⟨(k:Rat)/(n:Rat),by rw[Rat.div_def,Rat.mul_comm (k:Rat),<-Rat.mul_assoc,Rat.mul_inv_cancel _ (by grind),Rat.one_mul]⟩;have cancel:∀{u v:Rat},(n:Rat)*u=(n:Rat)*v->u=v:=λ{u v} e=>by
  have hne:(n:Rat)≠0:=by grind
  have:=congrArg (λy=>(n:Rat)⁻¹*y) e;simpa[<-Rat.mul_assoc,Rat.inv_mul_cancel _ hne] using this
 have le_c:∀{u v:Rat},(n:Rat)*u<=(n:Rat)*v->u<=v:=λ{u v} e=>by
  refine Rat.not_lt.1 λhl=>?_
  have:=Rat.mul_lt_mul_of_pos_left hl (show(0:Rat)<(n:Rat) by grind);grind
 have x0:0<=x:=le_c (by rw[hx];grind);have x1:x<=1:=le_c (by rw[hx];grind);obtain⟨y,hy⟩:∃y:Rat,(n:Rat)*y=A:=⟨A/(n:Rat),by rw[Rat.div_def,Rat.mul_comm A,<-Rat.mul_assoc,Rat.mul_inv_cancel _ (by grind),Rat.one_mul]⟩;have y0:0<=y:=le_c (by rw[hy];grind);have hd:(y-2*piV*x).abs<=eps/4*(2*piV*x):=by
  have e1:A-2*(k:Rat)*piV=(n:Rat)*(y-2*piV*x):=by rw[<-hx,<-hy];grind
  have e2:eps/4*(2*(k:Rat)*piV)=(n:Rat)*(eps/4*(2*piV*x)):=by rw[<-hx];grind
  rw[e1,e2,bD,fZ (show(0:Rat)<=(n:Rat) by grind)]at dA;exact le_c dA
 have px:2*piV*x<=628320/100000:=by have:=aC (show 2*piV<=628320/100000 by grind) x1 x0 (by decide +kernel);grind
 have hd2:(y-2*piV*x).abs<=16/10*eps:=by have:=dI px (show 0<=eps/4 by grind);grind
 have yb:y<=629/100:=by have:=aA.1 hd2;grind
 have hyd:A/(n:Rat)=y:=cancel (by rw[hy,Rat.div_def,Rat.mul_comm A,<-Rat.mul_assoc,Rat.mul_inv_cancel _ (by grind),Rat.one_mul]);obtain⟨t,τ,e,it,q⟩:=tU hA hn (by grind) (by rw[hyd];exact bMs (by rw[fZ y0];grind));rw[hyd]at q;have q1:=aTl q (B:=629/100) (by rw[fZ y0];exact yb) (cR mZ (by decide +kernel));have q2:=aA.1 q1;have τ0:0<=τ:=by
  rcases Nat.eq_zero_or_pos k with h0|h0
  ·have kz:(k:Rat)=0:=by rw[h0];rfl
   have xz:x=0:=cancel (by rw[hx,kz,Rat.mul_zero]);rw[xz]at hd;have yz:y=0:=by have:=aA.1 hd;grind
   have:=q.rep 0 0 (by decide) (by decide) (by rw[yz];simp);rw[this,yz];exact Rat.le_refl
  ·have k1:(1:Rat)<=(k:Rat):=by exact_mod_cast h0
   have x2:1/512<=x:=by have:=cG n2' x0;grind
   have p2:1/100<=2*piV*x:=by have:=aC (show(314159:Rat)/50000<=2*piV by grind) x2 (by decide +kernel) (by grind);grind
   have a1:=aA.1 hd2;grind
 have hxh:(k:Rat)*h=x*Q:=by rw[<-hx,<-hh];grind
 have dx:(2*piV*x-x*Q).abs<=56/100*eps:=by
  have e1:2*piV*x-x*Q=x*(2*piV-Q):=by grind
  rw[e1,bD,fZ x0];have:=aC x1 pc (aH _) (by decide);grind
 refine⟨t,τ,it,τ0,by grind,?_,λR K=>?_⟩;· rw[hxh];exact bOr ep (aA.1 hd2) (aA.1 dx) q2
 ·rw[cB,aK e]
end Go.Vx
