/- A part; no conditions. -/
import Derived.Test.YtaogignikkjkjaaGreatVmTF4
set_option maxRecDepth 1000000
set_option maxHeartbeats 1000000
set_option linter.all false
open Go.Vx.Cp renaming of->C9,ext'->E9,sub_re->S9,sub_im->T9
open Rat renaming le_refl->R9
namespace Go.Vx
open Go.Vm Go.Proofs Ieee
theorem aPo{x:Rat}(h:0<=x):Nm (C9 x) x:=oV (by rw[fZ h];exact R9)
theorem bYh(ν:Nat):WN (ν-1)<=WN ν:=eU (by unfold qB;decide +kernel) (by omega)
section
variable{GM:Prop}{cx cy r:Int}{S:jO (fI cx) (fI cy) (fI r)}{hs:List Th}{n:Nat}{dK zK dM zM:Nat->Nat×Nat}{DK ZK DM ZM z w zm wm:Nat->Cp}{c:Th->Nat×Nat}{C:Th->Cp}{s:Th->Sd}{κ:Th->Cp}{v vM:Th->Nat->Nat×Nat}{V:Th->Nat->Cp}{wM:Th->Nat->Nat}{L:Th->Nat->Rat}(T:Dat GM S hs n dK zK dM zM DK ZK DM ZM z w zm wm c C s κ v vM V wM L)
include T
theorem bDp{X:Th}(hX:X∈hs)(iX:gV S X=true)(kX:pG X=false){u u':Nat×Nat}{Z Z':Cp}(hA:AtF S hs n L s κ X.x X.y (nuH X) u Z)(hA':AtF S hs n L s κ X.x X.y (nuH X-1) u' Z'):
  ∃(q:Nat×Nat)(Q:Cp),IsZ q.1 q.2 Q/\Nm (Q-C9 2*mX cx cy r (S:=S) hs s κ C X) (130000000*eps*EX r hs L n X)/\Nm Q (1200000*EX r hs L n X)/\
  ∀(R:Type)(K:KNN R),(gJ R (fI X.x) (fI X.y) (fI cx) (fI cy) λd1 d2=>xJ dV d1 d2 [(u.1,u.2)] λq1 q2=>eQ R u'.1 u'.2 (fI X.p) λw1 w2=>jJ R q1 q2 w1 w2 λv1 v2=>
   sU R (fI X.s) (fI X.t) λn1 n2=>xJ dV n1 n2 [(v1,v2)] λq1 q2=>gF R 1 ((nuH X:Int)-1) λt=>aM (fbF .quo 4607182418800017408 t) λt=>eQ R q1 q2 t λq1 q2=>eQ R q1 q2 4611686018427387904 K)=K q.1 q.2:=by
 have ep:=bI;have et:=bR;obtain⟨R1,R2⟩:=Rq T;obtain⟨M0,M1,fM⟩:=tI T;obtain⟨W1,m0,_,fm⟩:=sO T hX;obtain⟨E0,E1,fE⟩:=aQw T hX;obtain⟨d1,d2,iD,nD,hD⟩:=aUc T hX iX;obtain⟨kd,ν1,ν8,hp⟩:X.kind=3/\1<=nuH X/\nuH X<=8/\X.p=(nuH X:Int):=by
  rcases rE T hX iX with ⟨h,_⟩|⟨_,h⟩;· rw[kX]at h;cases h
  ·exact h
 have D:=(oS T hX iX).2.2.2.2;have f:=T.good.fine X hX;have F:=aQx T hX iX;have eW:(s X).W=WN (nuH X):=by rw[(oS T hX iX).1];exact aCm _ _ _
 rw[show pH r X=sW r (nuH X) from rfl,eW]at F;have tl:=aT8 (Rne T) ν1;have t0:=aQo R1 R2 ν8;have w0:=bJ0 ν8;have w1:=bJ0 (show nuH X-1<=8 by omega);have wu:=bYh (nuH X);have ip:Is (fI X.p) ((nuH X:Nat):Rat):=by have:=jF (n:=X.p) (by omega);rw[hp]at this⊢;rwa[show(((nuH X:Nat):Int):Rat)=((nuH X:Nat):Rat) by norm_cast]at this
 have νq:(1:Rat)<=(nuH X:Rat):=by exact_mod_cast ν1
 have νa:((nuH X:Rat)).abs=(nuH X:Rat):=fZ (by grind);generalize ht:sW r (nuH X)=t at *
 generalize hw:WN (nuH X)=W at *
 generalize ht':sW r (nuH X-1)=t' at *
 generalize hw':WN (nuH X-1)=W' at *
 have AM:=hA.most;have AN:=hA.near;have BM:=hA'.most;have BN:=hA'.near;rw[ht,hw]at AM AN;rw[ht',hw']at BM BN;have tW:=aC t0.1 w0.1 (by decide) (show 0<=t by grind);have tW2:=aC t0.2 w0.2 (show 0<=W by grind) (by decide);have tW':=aC t0.1 w1.1 (by decide) (show 0<=t by grind);have tWle:t*W'<=t*W:=dI wu (by grind);have rtW:1/1000000000000000000000000000<=(r:Rat)*(t*W):=by have:=cG R1 (show 0<=t*W by grind);grind
 have rtW':1/1000000000000000000000000000<=(r:Rat)*(t*W'):=by have:=cG R1 (show 0<=t*W' by grind);grind
 have rtW2:=aC R2 tW2 (show 0<=t*W by grind) (by decide);have rle:=dI tWle (show 0<=(r:Rat) by grind);obtain⟨H,eH⟩:∃H,H=(r:Rat)*(t*W)*MH hs L n:=⟨_,rfl⟩;obtain⟨H',eH'⟩:∃H,H=(r:Rat)*(t*W')*MH hs L n:=⟨_,rfl⟩;have H0:0<=H:=by rw[eH];exact bU (by grind) M0
 have H'0:0<=H':=by rw[eH'];exact bU (by grind) M0
 have HH:H'<=H:=by rw[eH,eH'];exact cG rle M0
 have Hb:H<=2000*(40320*593)*1220400000000000000:=by rw[eH];exact aC rtW2 M1 M0 (by decide +kernel)
 have fH:∀{c:Rat},1<=c->Fit (c*H):=λ{c} hc=>by rw[eH,show c*((r:Rat)*(t*W)*MH hs L n)=c*((r:Rat)*(t*W))*MH hs L n by grind];refine tY ?_ fM;have:=aC hc rtW (by decide +kernel) (by grind);grind
 have fH':∀{c:Rat},1<=c->Fit (c*H'):=λ{c} hc=>by rw[eH',show c*((r:Rat)*(t*W')*MH hs L n)=c*((r:Rat)*(t*W'))*MH hs L n by grind];refine tY ?_ fM;have:=aC hc rtW' (by decide +kernel) (by grind);grind
 have e1:5075/10000*(r:Rat)*(602*(t*W)*MH hs L n)=5075/10000*602*H:=by rw[eH];grind
 obtain⟨a1,a2,Q1,i1,dq1,h1⟩:=mY iD hA.iZ nD AM (by rw[e1,bZ];grind) (.inr (by have:=cY (show(-400:Int)<=-20 by decide);rw[aPt]at this;grind)) (tY (by grind) fM);rw[e1]at dq1;have n1:=nD.mul AM;rw[e1]at n1;have x1:=nD.mul AN;rw[Cp.mul_sub,show 5075/10000*(r:Rat)*(111*eps*(601*(t*W)*MH hs L n))=5075/10000*111*601*(eps*H) by rw[eH];grind]at x1;have e2:602*(t'*W')*MH hs L n*(nuH X:Rat)=602*H':=by
  have:602*(t'*W')*MH hs L n*(nuH X:Rat)=602*(((nuH X:Rat)*t')*W'*MH hs L n):=by grind
  rw[this,tl,eH'];grind
 obtain⟨b1,b2,Q2,i2,dq2,h2⟩:=tG hA'.iZ ip BM (by rw[νa,e2];exact fH' (by decide)) (by rw[νa,e2,bZ];grind);rw[νa,e2]at dq2;have n2:=(aPo (show 0<=(nuH X:Rat) by grind)).mul BM;rw[Rat.mul_comm (nuH X:Rat),e2]at n2;have x2:=(aPo (show 0<=(nuH X:Rat) by grind)).mul BN;rw[Cp.mul_sub,show(nuH X:Rat)*(111*eps*(601*(t'*W')*MH hs L n))=111*601*(eps*H') by
  have:(nuH X:Rat)*(111*eps*(601*(t'*W')*MH hs L n))=111*601*(eps*(((nuH X:Rat)*t')*W'*MH hs L n)):=by grind
  rw[this,tl,eH'];grind]at x2
 have eH0:=bU (bN ep) H0;have eHH:=dI HH (bN ep);have etH:=cG et H0;have n12:Nm (Q1+Q2) (910*H):=((dq1.near n1).add (dq2.near n2)).mono (by clear x1 x2 dq1 dq2 n1 n2 fH fH' h1 h2;grind);obtain⟨q3,Q3,ad,i3,dq3⟩:=aK4 (a:=(a1,a2)) (b:=(b1,b2)) i1 i2 n12 (fH (by decide)) (by rw[bZ];grind);have n3:Nm Q3 (911*H):=(dq3.near n12).mono (by clear x1 x2 dq1 dq2 n1 n2 fH fH' h1 h2;grind);obtain⟨O,eO⟩:∃O,O=gz (X.x-cx) (X.y-cy)*lsm (dP r κ s (plP cx cy r X.x X.y) (nuH X)) (qV S hs)+C9 (nuH X:Rat)*lsm (dP r κ s (plP cx cy r X.x X.y) (nuH X-1)) (qV S hs):=⟨_,rfl⟩;have k3:Nm (Q3-O) (102000*(eps*H)):=by
  have k:=dq3.add ((dq1.add x1).add (dq2.add x2));rw[eO];have ee:Q3-(Q1+Q2)+(Q1-gz (X.x-cx) (X.y-cy)*Z+(gz (X.x-cx) (X.y-cy)*Z-gz (X.x-cx) (X.y-cy)*lsm (dP r κ s (plP cx cy r X.x X.y) (nuH X)) (qV S hs))+(Q2-C9 (nuH X:Rat)*Z'+(C9 (nuH X:Rat)*Z'-C9 (nuH X:Rat)*lsm (dP r κ s (plP cx cy r X.x X.y) (nuH X-1)) (qV S hs))))=Q3-(gz (X.x-cx) (X.y-cy)*lsm (dP r κ s (plP cx cy r X.x X.y) (nuH X)) (qV S hs)+C9 (nuH X:Rat)*lsm (dP r κ s (plP cx cy r X.x X.y) (nuH X-1)) (qV S hs)):=by generalize gz (X.x-cx) (X.y-cy)*Z=g1;generalize gz (X.x-cx) (X.y-cy)*lsm (dP r κ s (plP cx cy r X.x X.y) (nuH X)) (qV S hs)=g2;generalize C9 (nuH X:Rat)*Z'=g3;generalize C9 (nuH X:Rat)*lsm (dP r κ s (plP cx cy r X.x X.y) (nuH X-1)) (qV S hs)=g4;exact E9 (by simp only[Cp.add_re,S9];grind) (by simp only[Cp.add_im,T9];grind)
  rw[ee]at k;refine k.mono ?_;clear k ee x1 x2 dq1 dq2 dq3 n1 n2 n3 n12 fH fH' h1 h2 eO;grind
 have ti:1/40320<=t⁻¹:=by
  refine Rat.not_lt.1 λhl=>?_
  have:=Rat.mul_inv_cancel t (by grind);have h2:=Rat.mul_lt_mul_of_pos_left hl (show 0<t by grind);grind
 have wi:1/593<=W⁻¹:=by
  refine Rat.not_lt.1 λhl=>?_
  have:=Rat.mul_inv_cancel W (by grind);have h2:=Rat.mul_lt_mul_of_pos_left hl (show 0<W by grind);grind
 have fF:Fit ((r:Rat)/t*(600*mT L n X/W)):=by rw[show(r:Rat)/t*(600*mT L n X/W)=(r:Rat)*600*(t⁻¹*W⁻¹)*mT L n X by rw[Rat.div_def,Rat.div_def];grind];refine tY ?_ fm;have u3:=aC ti wi (by decide +kernel) (cR (by decide +kernel) ti);have u4:=aC (show 600<=(r:Rat)*600 by grind) u3 (by decide +kernel) (by grind);exact cR (by decide +kernel) u4
 have eq:∀x:Rat,(r:Rat)/t*(600*mT L n X/W)*(x*H)=600*x*EX r hs L n X:=λx=>by have:=aTm (r:=(r:Rat)) (m:=mT L n X) (M:=MH hs L n) (x:=x*(r:Rat)) (show t≠0 by grind) (show W≠0 by grind);rw[eH,show x*((r:Rat)*(t*W)*MH hs L n)=x*(r:Rat)*(t*W)*MH hs L n by grind,this];unfold EX;grind
 obtain⟨q5,Q5,i5,dq5,h5⟩:=bU0 f D (z:=q3) i3 n3 F fF (fH (by decide)) (by
  rw[eq];rcases fE with h|h;· left;rw[h];grind
  ·right;have e2:(2:Rat)^(-390:Int)=(2:Rat)^(-400:Int)*(2:Rat)^(10:Int):=by rw[<-bO];rfl
   rw[e2,show(2:Rat)^(10:Int)=1024 by rw[show(10:Int)=((10:Nat):Int) by rfl,cN];rfl];have:=bG (-400);generalize (2:Rat)^(-400:Int)=p at *
   grind) (by
  rw[eq];clear x1 x2 dq1 dq2 dq3 n1 n2 n3 n12 fH fH' h1 h2 eO k3 fF eq F AM AN BM BN;grind)
 rw[eq]at dq5;have eE:=bU (bN ep) E0;have n5:Nm Q5 (547000*EX r hs L n X):=by have k:=F.mul n3;rw[eq]at k;refine(dq5.near k).mono ?_;have:=cG et E0;clear dq5 k x1 x2 dq1 dq2 dq3 n1 n2 n3 n12 fH fH' h1 h2 eO k3 h5;grind
 have k5:Nm (Q5-Fx X (C X)*O) (64000000*eps*EX r hs L n X):=by have k:=F.mul k3;rw[Cp.mul_sub,show 102000*(eps*H)=(102000*eps)*H by grind,eq]at k;refine(dq5.tri k).mono ?_;clear dq5 k x1 x2 dq1 dq2 dq3 n1 n2 n3 n12 fH fH' h1 h2 eO k3 h5 n5;grind
 obtain⟨q6,q7,Q,iQ,dQ,nQ,hQ⟩:=aHz i5 n5 k5 (by decide +kernel) (by decide +kernel) (by decide +kernel) E0 fE E1;refine⟨(q6,q7),Q,iQ,?_,nQ,λR K=>?_⟩;· unfold mX;rw[kX,F7,<-eO];exact dQ
 ·rw[hD];show dV R d1 d2 u.1 u.2 (λa b=>eQ R u'.1 u'.2 (fI X.p) λw1 w2=>jJ R a b w1 w2 λv1 v2=>sU R (fI X.s) (fI X.t) λn1 n2=>dV R n1 n2 v1 v2 λq1 q2=>gF R 1 ((nuH X:Int)-1) λt=>aM (fbF .quo 4607182418800017408 t) λt=>eQ R q1 q2 t λq1 q2=>eQ R q1 q2 4611686018427387904 K)=_;rw[h1,h2,ad];have e:=h5 R λq1 q2=>eQ R q1 q2 4611686018427387904 K
  have kk:(X.el.kind==2)=false:=by show(X.kind==2)=false;rw[kd];rfl
  rw[kk,F7]at e;refine Eq.trans e ?_;exact hQ R K
end
theorem aRe(l:List Th)(h:Th):els (l++[h])=els l++[h.el]:=by unfold els;simp
section
variable{GM:Prop}{cx cy r:Int}{S:jO (fI cx) (fI cy) (fI r)}{hs:List Th}{n:Nat}{dK zK dM zM:Nat->Nat×Nat}{DK ZK DM ZM z w zm wm:Nat->Cp}{c:Th->Nat×Nat}{C:Th->Cp}{s:Th->Sd}{κ:Th->Cp}{v vM:Th->Nat->Nat×Nat}{V:Th->Nat->Cp}{wM:Th->Nat->Nat}{L:Th->Nat->Rat}(T:Dat GM S hs n dK zK dM zM DK ZK DM ZM z w zm wm c C s κ v vM V wM L)
include T
theorem bSz{k:Nat}(hk:k<hs.length):inJ S (els hs) k=(tH S (Hn hs k).el == -1):=by
 have e:(els hs)[k]?=some (Hn hs k).el:=by unfold els;rw[List.getElem?_map,aK1 hk];rfl
 have e2:aDw S (-1) (els hs) k=(tH S (Hn hs k).el == -1):=by unfold aDw;rw[e]
 have hl:=jZ hs;rw[<-e2];show decide (k∈lP S (-1) (els hs) (els hs).length)=_;unfold lP;cases h:aDw S (-1) (els hs) k with
 |true=>exact D7 (List.mem_filter.2 ⟨List.mem_range.2 (by omega),h⟩)
 |false=>
  refine E7 λhm=>?_
  have:=(List.mem_filter.1 hm).2;rw[h]at this;cases this
theorem bOm{k:Nat}(hk:k<hs.length)(h:Nat×Nat)(B:bCs):vW (inJ S (els hs) k) (Hn hs k).el h B =
  bif gV S (Hn hs k) then(bif pG (Hn hs k) then{ B with is:=B.is++[(Hn hs k).el],hs:=B.hs++[h] } else{ B with is:=B.is++[(Hn hs k).el] }) else{ B with os:=B.os++[(Hn hs k).el] }:=by
 have hm:=oJ hk;rw[bSz T hk];generalize Hn hs k=X at *
 have e3:(X.el.kind==3)=(X.kind==3):=rfl;have e2:(X.el.kind==2)=(X.kind==2):=rfl;have side:(X.kind=2\/X.kind=3)->(tH S X.el == -1)=gV S X:=λhk=>by unfold tH gV;rw[show(X.el.kind==1)=false by show(X.kind==1)=false;rcases hk with q|q<;>rw[q]<;>rfl,F7,aZn T.good hm hk,show(X.kind==2||X.kind==3)=true by rcases hk with q|q<;>rw[q]<;>rfl,Bool.true_and];cases leF (S.lw X.el) (xU (fI r))<;>rfl
 unfold vW;rw[e3,e2];rcases aOw T.good hm with q|q|⟨q,_⟩|⟨q,_⟩
 ·have ib:gV S X=false:=by unfold gV;rw[q];rfl
  rw[ib,q];cases tH S X.el == -1<;>rfl
 ·have sb:pG X=true:=by unfold pG;rw[q];rfl
  rw[side (.inl q),sb,q];cases gV S X<;>rfl
 ·have sb:pG X=false:=by unfold pG;rw[q];rfl
  rw[side (.inr q),sb,q];cases gV S X<;>rfl
 ·have ib:gV S X=false:=by unfold gV;rw[q];rfl
  rw[ib,q];cases tH S X.el == -1<;>rfl
theorem aLg{sh:El->Nat×Nat}:∀{k:Nat},k<=hs.length->oI (els hs) (inJ S (els hs)) sh k=⟨els (qV S (hs.take k)),els (mC S (hs.take k)),((mC S (hs.take k)).filter pG).map λh=>sh h.el⟩
 |0,_=>rfl
 |k+1,h=>by
  have ih:=aLg (sh:=sh) (k:=k) (by omega);have hk:k<hs.length:=by omega
  have e:(els hs)[k]?=some (Hn hs k).el:=by unfold els;rw[List.getElem?_map,aK1 hk];rfl
  have et:hs.take (k+1)=hs.take k++[Hn hs k]:=by rw[List.take_add_one,aK1 hk];rfl
  unfold oI;rw[e];show vW _ _ _ _=_;rw[bOm T hk,ih,et];unfold qV mC;rw[List.filter_append,List.filter_append];cases a:gV S (Hn hs k) with
  |true=>
   rw[show List.filter (λh=>!gV S h) [Hn hs k]=[] by simp[a],show List.filter (gV S) [Hn hs k]=[Hn hs k] by simp[a],List.append_nil,aRe,List.filter_append];cases b:pG (Hn hs k) with
   |true=>rw[show List.filter pG [Hn hs k]=[Hn hs k] by simp[b],List.map_append];rfl
   |false=>rw[show List.filter pG [Hn hs k]=[] by simp[b],List.append_nil];rfl
  |false=>rw[show List.filter (λh=>!gV S h) [Hn hs k]=[Hn hs k] by simp[a],show List.filter (gV S) [Hn hs k]=[] by simp[a],List.append_nil,aRe];rfl
theorem aW7(sh:El->Nat×Nat):oI (els hs) (inJ S (els hs)) sh (els hs).length=⟨els (qV S hs),els (mC S hs),((mC S hs).filter pG).map λh=>sh h.el⟩:=by have:=aLg T (sh:=sh) (k:=hs.length) (Nat.le_refl _);rw[List.take_length]at this;rw[jZ,this]
end
theorem aM2(b:Nat->Rat):∀n,rsm b (n+1)=b 0+rsm (λk=>b (k+1)) n
 |0=>by show(0:Rat)+b 0=b 0+0;grind
 |n+1=>by show rsm b (n+1)+b (n+1)=b 0+(rsm (λk=>b (k+1)) n+b (n+1));rw[aM2 b n];grind
theorem aLq(b:Nat->Cp):∀n,csm b (n+1)=b 0+csm (λk=>b (k+1)) n
 |0=>by show Cp.zero+b 0=b 0+Cp.zero;rw[Cp.add_comm]
 |n+1=>by show csm b (n+1)+b (n+1)=b 0+(csm (λk=>b (k+1)) n+b (n+1));rw[aLq b n,Cp.add_assoc]
section
variable{GM:Prop}{cx cy r:Int}{S:jO (fI cx) (fI cy) (fI r)}{hs:List Th}{n:Nat}{dK zK dM zM:Nat->Nat×Nat}{DK ZK DM ZM z w zm wm:Nat->Cp}{c:Th->Nat×Nat}{C:Th->Cp}{s:Th->Sd}{κ:Th->Cp}{v vM:Th->Nat->Nat×Nat}{V:Th->Nat->Cp}{wM:Th->Nat->Nat}{L:Th->Nat->Rat}(T:Dat GM S hs n dK zK dM zM DK ZK DM ZM z w zm wm c C s κ v vM V wM L)
def RM(r:Int)(hs:List Th)(L:Th->Nat->Rat)(n:Nat):Rat:=(r:Rat)*(r:Rat)*(MH hs L n*MH hs L n)
include T
theorem aQz:0<=RM r hs L n/\RM r hs L n<=100000000000000000000000000000000000000000000/\(∀c:Rat,1<=c->Fit (c*RM r hs L n))/\RM r hs L n<=(r:Rat)*(r:Rat)*UH hs L n:=by
 obtain⟨R1,R2⟩:=Rq T;obtain⟨M0,M1,fM⟩:=tI T;have RR1:=aC R1 R1 (by decide) (show 0<=(r:Rat) by grind);have RR2:=aC R2 R2 (show 0<=(r:Rat) by grind) (by decide);have MM0:=bU M0 M0;have MM1:=aC M1 M1 M0 (by decide);have h0:0<=RM r hs L n:=bU (by grind) MM0;refine⟨h0,cR (aC RR2 MM1 MM0 (by decide +kernel)) (by decide +kernel),λc hc=>?_,dI (cCr T) (by grind)⟩;refine kB hc h0 ?_;unfold RM;refine kB (by grind) MM0 ?_;rcases fM with h|h;· left;rw[h];grind
 ·right;have e:=aC h h (bN (bG _)) M0;rwa[<-bO,show(-200+-200:Int)=-400 by decide]at e
theorem bF1:∃(f:Nat->Nat×Nat)(p:Nat×Nat)(P:Cp),aGf (((mC S hs).filter pG).map c) f/\(∀(R:Type)(K:KNN R),dV R (f (((mC S hs).filter pG).map c).length).1 (f (((mC S hs).filter pG).map c).length).2 (f (((mC S hs).filter pG).map c).length).1 (f (((mC S hs).filter pG).map c).length).2 K=K p.1 p.2)/\IsZ p.1 p.2 P/\
  Nm (P-lsm C ((mC S hs).filter pG)*lsm C ((mC S hs).filter pG)) (5100000*eps*RM r hs L n)/\Nm P (361000*RM r hs L n):=by
 have ep:=bI;have et:=bR;obtain⟨R1,R2⟩:=Rq T;obtain⟨M0,M1,fM⟩:=tI T;obtain⟨G0,G1,fG,_⟩:=aQz T;have l6:=T.good.len6;have mem:∀X∈(mC S hs).filter pG,X∈hs/\gV S X=true/\pG X=true:=λX hX=>by obtain⟨a,b⟩:=List.mem_filter.1 hX;obtain⟨p,q⟩:=List.mem_filter.1 a;exact⟨p,q,b⟩
 have bC:∀X∈(mC S hs).filter pG,Nm (C X) (600*(r:Rat)*mT L n X):=λX hX=>by
  obtain⟨hm,iX,kX⟩:=mem X hX;obtain⟨W1,m0,_,_⟩:=sO T hm;obtain⟨q0,qF⟩:nuH X=0/\Fx X (C X)=C X:=by
   rcases rE T hm iX with ⟨_,_,h⟩|⟨h,_⟩;· exact h
   ·rw[kX]at h;cases h
  have F:=aQx T hm iX;rw[qF,show pH r X=1 by unfold pH;rw[q0,Rat.pow_zero,Rat.mul_one];rfl]at F;refine F.mono ?_;have a:600*mT L n X/(s X).W<=600*mT L n X:=aHa (by grind) (by have:=dI W1 (show 0<=600*mT L n X by grind);grind);have:=dI a (show 0<=(r:Rat) by grind);rw[Rat.div_def,show((1:Rat))⁻¹=1 by decide +kernel];grind
 have part:lsr (mT L n) ((mC S hs).filter pG)<=MH hs L n:=by
  have:=pK T λh=>pG h&&gV S h
  unfold mC;rw[List.filter_filter];exact this
 have len:((mC S hs).filter pG).length<=6:=Nat.le_trans (List.length_filter_le _ _) (Nat.le_trans (List.length_filter_le _ _) l6);obtain⟨f,U,sT,iU,dU,nU⟩:=aDd (ys:=(mC S hs).filter pG) (wf:=c) (vf:=C) (bf:=λX=>600*(r:Rat)*mT L n X) (B:=600*(r:Rat)*MH hs L n) len (λX hX=>by
   obtain⟨hm,iX,kX⟩:=mem X hX;rcases rE T hm iX with ⟨_,k,_⟩|⟨h,_⟩;· exact(aDj (T.D X hm) k).2
   ·rw[kX]at h;cases h) bC (by
   rw[mI];exact dI part (by grind)) (tY (by grind) fM) (by
   have:=aC (show 600*(r:Rat)<=600*2000 by grind) M1 M0 (by decide +kernel);rw[bZ];grind)
 have eB:1001/1000*(600*(r:Rat)*MH hs L n)*(1001/1000*(600*(r:Rat)*MH hs L n))=1001/1000*(1001/1000)*360000*RM r hs L n:=by unfold RM;grind
 have fU:Fit (1001/1000*(600*(r:Rat)*MH hs L n)):=by rw[show 1001/1000*(600*(r:Rat)*MH hs L n)=1001/1000*600*(r:Rat)*MH hs L n by grind];exact tY (by grind) fM
 obtain⟨p1,p2,P,iP,dP,hP⟩:=mY iU iU nU nU (by rw[eB,bZ];grind) fU fU;rw[eB]at dP;have nUU:=nU.mul nU;rw[eB]at nUU;have nl:Nm (lsm C ((mC S hs).filter pG)) (600*(r:Rat)*MH hs L n):=by refine(aSj bC).mono ?_;rw[mI];exact dI part (by grind)
 have k1:=nU.mul dU;have k2:=dU.mul nl;rw[Cp.mul_sub,show 1001/1000*(600*(r:Rat)*MH hs L n)*(6*eps*(600*(r:Rat)*MH hs L n))=1001/1000*6*360000*(eps*RM r hs L n) by unfold RM;grind]at k1;rw[Cp.sub_mul,show 6*eps*(600*(r:Rat)*MH hs L n)*(600*(r:Rat)*MH hs L n)=6*360000*(eps*RM r hs L n) by unfold RM;grind]at k2;have k:=(dP.tri k1).tri k2;have eG:=bU (bN ep) G0;have etG:=cG et G0;refine⟨f,(p1,p2),P,sT,hP,iP,k.mono ?_,(dP.near nUU).mono ?_⟩;· clear k k1 k2 dP nUU hP dU nU bC;grind
 ·clear k k1 k2 dP nUU hP dU nU bC;grind
theorem aZl:lsr (EX r hs L n) (mC S hs)<=RM r hs L n:=by
 obtain⟨R1,R2⟩:=Rq T;have M0:=(tI T).1;have e:lsr (EX r hs L n) (mC S hs)=(r:Rat)*(r:Rat)*MH hs L n*lsr (mT L n) (mC S hs):=by rw[<-mI];congr 1;funext X;unfold EX;grind
 rw[e,show RM r hs L n=(r:Rat)*(r:Rat)*MH hs L n*MH hs L n by unfold RM;grind];exact dI (pK T _) (bU (bU (by grind) (by grind)) M0)
theorem bYn:∃(a1 a2 am:Nat)(X:Cp)(Mo:Rat),aD Tryz.prog 24 [cW 0 (els hs).length (els hs).length,ciV (fI cx) (fI cy) (fI r)] ⟨1,[(0,.cells (cellsOf (els hs)) 4)]⟩ (rO a1 a2 am 0)/\IsZ a1 a2 X/\Is am Mo/\
  Nm (X-(C9 (-(eJ/2))*(C9 (r:Rat)*G2 hs s κ)).cj) (eJ*((r:Rat)*UH hs L n)*(500/10000000000))/\(Mo-eJ/2*((r:Rat)*(r:Rat))*(G3 hs s κ).im).abs<=eJ*((r:Rat)*(r:Rat)*UH hs L n)*(500/10000000000):=by
 have ep:=bI;have et:=bR;have e2:eps<=1/2251799813685248:=by rw[aOk];exact R9
 obtain⟨R1,R2⟩:=Rq T;obtain⟨M0,M1,fM⟩:=tI T;obtain⟨U0,U1,fU⟩:=aA2 T;obtain⟨G0,Gb,fG,GU⟩:=aQz T;have P6:=aCj;have P7:=aS9;have l6:=T.good.len6;have el:=jZ hs;obtain⟨th,hth⟩:=bVy T.good.fine;obtain⟨y1,y2,Y,hsq,iY,dY,nG⟩:=aHt T;obtain⟨at',hat⟩:=bQ4 T;obtain⟨f,p0,P0,sT,hmul,iP0,dP0,nP0⟩:=bF1 T;obtain⟨tm,htm⟩:=bFj (β:=(Nat×Nat)×Cp) (l:=mC S hs) (p:=λX x=>IsZ x.1.1 x.1.2 x.2/\Nm (x.2-C9 2*mX cx cy r (S:=S) hs s κ C X) (130000000*eps*EX r hs L n X)/\Nm x.2 (1200000*EX r hs L n X)/\
   ∀g g':Nat×Nat,aWh g x.1 g'->bP9 (els (qV S hs)) (λa b m=>(at' a b m).1) (fI cx) (fI cy) X.el g g') (λX hX=>by
  obtain⟨hm,iX⟩:=bMb T hX;rcases rE T hm iX with ⟨kX,k,q0,_⟩|⟨kX,k,ν1,ν8,hp⟩;· have hA:=hat X hm iX 0 (by omega);obtain⟨q,Q,h1,h2,h3,h4⟩:=bF8 T hm iX kX hA;refine⟨(q,Q),h1,h2,h3,λg g' ha=>.inl ⟨k,λiv=>hA.call iv,λR K=>?_⟩⟩;refine(h4 R λq1 q2=>jJ R g.1 g.2 q1 q2 K).trans ?_;exact ha R K
  ·have hA:=hat X hm iX (nuH X) (by omega);have hA':=hat X hm iX (nuH X-1) (by omega);obtain⟨q,Q,h1,h2,h3,h4⟩:=bDp T hm iX kX hA hA';have f:=T.good.fine X hm;have hpw:=f.pow;have ti:floatToIntVal .f64 (fI X.p) .i64=some X.p:=xR (jF (by omega)) (by omega);have eν:((nuH X-1:Nat):Int)=(nuH X:Int)-1:=by omega
   rw[eν]at h4;refine⟨(q,Q),h1,h2,h3,λg g' ha=>.inr ⟨k,(nuH X:Int),by show floatToIntVal .f64 (fI X.p) .i64=_;rw[ti,hp],by omega,by omega,λiv=>hA.call iv,λiv=>?_,λR K=>?_⟩⟩;· have:=hA'.call iv;rw[eν]at this;exact this
   ·refine(h4 R λq1 q2=>jJ R g.1 g.2 q1 q2 K).trans ?_;exact ha R K)
 have hl6:(mC S hs).length<=6:=Nat.le_trans (List.length_filter_le _ _) l6;have nth:∀k,k<(mC S hs).length->(mC S hs).getD k default∈mC S hs:=λk hk=>xA hk
 obtain⟨q,hq⟩:∃q:Nat->Nat×Nat,q=λk=>match k with|0=>p0|k+1=>(tm ((mC S hs).getD k default)).1:=⟨_,rfl⟩
 obtain⟨A,hA⟩:∃A:Nat->Cp,A=λk=>match k with|0=>P0|k+1=>(tm ((mC S hs).getD k default)).2:=⟨_,rfl⟩
 obtain⟨b,hb⟩:∃b:Nat->Rat,b=λk=>match k with|0=>361000*RM r hs L n|k+1=>1200000*EX r hs L n ((mC S hs).getD k default):=⟨_,rfl⟩
 have sb:rsm b ((mC S hs).length+1)<=1561000*RM r hs L n:=by rw[aM2,hb];show 361000*RM r hs L n+rsm (λk=>1200000*EX r hs L n ((mC S hs).getD k default)) (mC S hs).length<=_;rw[jD,<-aEp];have:=aZl T;grind
 obtain⟨g,g0,g1,g2,g3⟩:=aAv (q:=q) (A:=A) (b:=b) (n:=(mC S hs).length+1) (B:=1561000*RM r hs L n) (by omega) (λk hk=>by
   rw[hq,hA]
   match k with
   |0=>exact iP0
   |k+1=>exact(htm _ (nth k (by omega))).1) (λk hk=>by
   rw[hA,hb]
   match k with
   |0=>exact nP0
   |k+1=>exact(htm _ (nth k (by omega))).2.2.1) sb (fG _ (by decide)) (by rw[bZ];grind)
 obtain⟨Rv,iR,dR⟩:=g3 ((mC S hs).length+1) (Nat.le_refl _);have eA:csm A ((mC S hs).length+1)=P0+lsm (λX=>(tm X).2) (mC S hs):=by rw[aLq,hA,wH]
 rw[eA]at dR;have k1:Nm (lsm (λX=>(tm X).2) (mC S hs)-C9 2*lsm (mX cx cy r (S:=S) hs s κ C) (mC S hs)) (130000000*eps*RM r hs L n):=by rw[<-bMr];refine(xI λX hX=>(htm X hX).2.1).mono ?_;rw[mI];exact dI (aZl T) (by grind)
 have n7:(((mC S hs).length+1:Nat):Rat)<=7:=by exact_mod_cast (show(mC S hs).length+1<=7 by omega)
 have eG:=bU (bN ep) G0;have n7e:=cG n7 (show 0<=eps*(1561000*RM r hs L n) by grind);have kR:Nm (Rv-C9 ((r:Rat)*(r:Rat))*G3 hs s κ) (150000000*eps*RM r hs L n):=by
  rw[bYe T];have k:=dR.add (dP0.add k1);have ee:Rv-(P0+lsm (λX=>(tm X).2) (mC S hs))+(P0-lsm C ((mC S hs).filter pG)*lsm C ((mC S hs).filter pG)+(lsm (λX=>(tm X).2) (mC S hs)-C9 2*lsm (mX cx cy r (S:=S) hs s κ C) (mC S hs)))=Rv-(lsm C ((mC S hs).filter pG)*lsm C ((mC S hs).filter pG)+C9 2*lsm (mX cx cy r (S:=S) hs s κ C) (mC S hs)):=by generalize lsm (λX=>(tm X).2) (mC S hs)=x1;generalize lsm C ((mC S hs).filter pG)*lsm C ((mC S hs).filter pG)=x2;generalize C9 2*lsm (mX cx cy r (S:=S) hs s κ C) (mC S hs)=x3;exact E9 (by simp only[Cp.add_re,S9];grind) (by simp only[Cp.add_im,T9];grind)
  rw[ee]at k;refine k.mono ?_;clear k ee dR g3 g2 k1 hat htm sb eA hA hb hq dP0 nP0;grind
 have nR:Nm Rv (1600000*RM r hs L n):=by have a:=(nP0.add (aSj (f:=λX=>(tm X).2) λX hX=>(htm X hX).2.2.1));rw[mI]at a;refine(dR.near a).mono ?_;have:=aZl T;have etG:=cG et G0;clear a dR g3 g2 k1 hat htm sb eA hA hb hq dP0 nP0 kR;grind
 have hT:ByT (c:=(els hs).length) (sz:=4) (x:=y1) (y:=y2) (sh:=λX=>c (th X)) (val:=λa b m=>(at' a b m).1) (ρ:=λk=>g (k+1)) (u1:=(f (((mC S hs).filter pG).map c).length).1) (u2:=(f (((mC S hs).filter pG).map c).length).2) S (els hs):=by
  have memE:∀X∈els hs,∃h∈hs,X=h.el/\th X=h:=λX hX=>by unfold els at hX;obtain⟨h,hm,rfl⟩:=List.mem_map.1 hX;exact⟨h,hm,rfl,hth h hm⟩
  have bs:=aW7 T λX=>c (th X)
  have em:(((mC S hs).filter pG).map λh=>c (th h.el))=((mC S hs).filter pG).map c:=List.map_congr_left λh hm=>by show c (th h.el)=c h;rw[hth h (List.mem_filter.1 (List.mem_filter.1 hm).1).1]
  rw[em]at bs;refine⟨by omega,λX hX=>?_,λX hX=>?_,aLo T false,hsq,λX hX h2 R K=>?_,λk X hX=>?_,⟨f,?_,?_⟩,λR K=>?_⟩;· obtain⟨h,hm,rfl,_⟩:=memE X hX;exact T.good.see h (T.good.fine h hm)
  ·obtain⟨h,hm,rfl,_⟩:=memE X hX;show h.kind=1\/h.kind=4\/h.kind=2\/h.kind=3;rcases aOw T.good hm with q|q|⟨q,_⟩|⟨q,_⟩
   ·exact .inl q
   ·exact .inr (.inr (.inl q))
   ·exact .inr (.inr (.inr q))
   ·exact .inr (.inl q)
  ·obtain⟨h,hm,rfl,e⟩:=memE X hX;show eQ R (fI h.s) (fI h.t) 4594902181429758083 K=K (c (th h.el)).1 (c (th h.el)).2;rw[e];exact(aDj (T.D h hm) h2).1 R K
  ·rw[bs]at hX⊢;unfold els at hX;rw[List.getElem?_map]at hX;cases hg:(mC S hs)[k]? with
   |none=>rw[hg]at hX;cases hX
   |some h=>
    rw[hg]at hX;cases hX;have hk:=(List.getElem?_eq_some_iff.1 hg).1;have eh:(mC S hs).getD k default=h:=by rw[List.getD_eq_getElem?_getD,hg];rfl
    refine(htm h (List.mem_of_getElem? hg)).2.2.2 _ _ ?_;have:=g2 (k+1) (by omega) (by omega);rw[hq]at this;have e3:(λk=>match k with|0=>p0|k+1=>(tm ((mC S hs).getD k default)).1:Nat->Nat×Nat) (k+1)=(tm h).1:=by show(tm ((mC S hs).getD k default)).1=_;rw[eh]
    rw[e3]at this;exact this
  ·rw[bs];exact sT
  ·rw[bs]
  ·show dV R _ _ _ _ K=K (g (0+1)).1 (g (0+1)).2;rw[hmul,g1 (by omega),hq]
 have an:(-(eJ/2)).abs=eJ/2:=by rw[Rat.abs_neg];exact fZ (by grind)
 have RU:=bU (show 0<=(r:Rat) by grind) U0;have PRU:=bU (show 0<=eJ by grind) RU;have RR1:=aC R1 R1 (by decide) (show 0<=(r:Rat) by grind);have RRU:=bU (show 0<=(r:Rat)*(r:Rat) by grind) U0;have big1:(r:Rat)*UH hs L n<=2000*1500000000000000000000000000000000000:=aC R2 U1 U0 (by decide);have nY:Nm Y (722726*((r:Rat)*UH hs L n)):=(dY.near ((aPo (show 0<=(r:Rat) by grind)).mul nG)).mono (by
  rw[show(r:Rat)*(722725*UH hs L n)=722725*((r:Rat)*UH hs L n) by grind];have:=cG et RU;generalize (r:Rat)*UH hs L n=x at *
  clear dY nG hT dR g3 g2 k1 hat htm sb eA hA hb hq dP0 nP0 kR nR;grind)
 have c1:1<=361363*eJ*(r:Rat):=by have:=aC (show 1<=361363*eJ by grind) R1 (by decide) (by grind);grind
 have big2:eJ*((r:Rat)*UH hs L n)<=63/10*(2000*1500000000000000000000000000000000000):=aC P7 big1 RU (by decide +kernel);have e1:722726*((r:Rat)*UH hs L n)*(eJ/2)=361363*(eJ*((r:Rat)*UH hs L n)):=by grind
 obtain⟨x1,x2,X,iX,dX,hX⟩:=tG iY bS7 nY (by
  rw[an,show 722726*((r:Rat)*UH hs L n)*(eJ/2)=361363*eJ*(r:Rat)*UH hs L n by grind];exact bLu c1 U0 fU) (by
  rw[an,e1,bZ];generalize eJ*((r:Rat)*UH hs L n)=x at *
  clear dY nG hT dR g3 g2 k1 hat htm sb eA hA hb hq dP0 nP0 kR nR;grind)
 rw[an,e1]at dX;obtain⟨x3,iC,hC⟩:=aN8 iX;have PG0:=bU (show 0<=eJ by grind) G0;have PG1:=aC P7 Gb G0 (by decide +kernel);have nIm:=nR.im;have bm:(eJ/2*Rv.im).abs<=800000*(eJ*RM r hs L n):=by rw[bD,fZ (show 0<=eJ/2 by grind)];have:=dI nIm (show 0<=eJ/2 by grind);grind
 have c2:1<=800000*eJ:=by grind
 obtain⟨am,Mo,em,iM,dM⟩:=wI bH7 iR.2 bm (by
  rw[show 800000*(eJ*RM r hs L n)=800000*eJ*RM r hs L n by grind];exact fG _ c2) (by
  rw[bZ];clear dY nG hT dR g3 g2 k1 hat htm sb eA hA hb hq dP0 nP0 kR nR dX;grind)
 have hcall:=by_call S hT (a:=x1) (b:=x3) (m:=am) (e:=0) λR K=>by
  have bs:=aW7 T λX=>c (th X)
  rw[bs];have ei:=jZ (mC S hs);unfold fbZ;rw[hX,hC];show aM (fbF .mul 4614256656552045848 (g ((els (mC S hs)).length+1)).2) _=_;rw[ei,aK em,nK iC.1 iC.2,T7,rX iM,T7]
 refine⟨x1,x3,am,X.cj,Mo,hcall,iC,iM,?_,?_⟩
 ·have k2:Nm (C9 (-(eJ/2))*(Y-C9 (r:Rat)*G2 hs s κ)) (eJ/2*((r:Rat)*UH hs L n*(242*eps*361000))):=(oV (by rw[an];exact R9)).mul dY;have k3:=dX.add k2;rw[Cp.mul_sub]at k3;have ee:X-C9 (-(eJ/2))*Y+(C9 (-(eJ/2))*Y-C9 (-(eJ/2))*(C9 (r:Rat)*G2 hs s κ))=X-C9 (-(eJ/2))*(C9 (r:Rat)*G2 hs s κ):=by generalize C9 (-(eJ/2))*Y=x;exact E9 (by simp only[Cp.add_re,S9];grind) (by simp only[Cp.add_im,T9];grind)
  rw[ee]at k3;have k4:=k3.cj;rw[bHk]at k4;refine k4.mono ?_;rw[show eJ/2*((r:Rat)*UH hs L n*(242*eps*361000))=121*361000*(eps*(eJ*((r:Rat)*UH hs L n))) by grind];have eY:=cG e2 PRU;generalize eJ*((r:Rat)*UH hs L n)=x at *
  clear dY nG hT dR g3 g2 k1 hat htm sb eA hA hb hq dP0 nP0 kR nR dX k2 k3 k4 ee hcall;grind
 ·have k:=kR.im;have e3:(Rv-C9 ((r:Rat)*(r:Rat))*G3 hs s κ).im=Rv.im-(r:Rat)*(r:Rat)*(G3 hs s κ).im:=by rw[Cp.of_mul];rfl
  rw[e3]at k;have tri:=aL (Mo-eJ/2*Rv.im) (eJ/2*(Rv.im-(r:Rat)*(r:Rat)*(G3 hs s κ).im));rw[bD,fZ (show 0<=eJ/2 by grind),show Mo-eJ/2*Rv.im+eJ/2*(Rv.im-(r:Rat)*(r:Rat)*(G3 hs s κ).im)=Mo-eJ/2*((r:Rat)*(r:Rat))*(G3 hs s κ).im by grind]at tri;have k':=dI k (show 0<=eJ/2 by grind);have ePG:=cG e2 PG0;have PGU:=dI GU (show 0<=eJ by grind);rw[show eJ/2*(150000000*eps*RM r hs L n)=75000000*(eps*(eJ*RM r hs L n)) by grind]at k';rw[show eps/4*(800000*(eJ*RM r hs L n))=200000*(eps*(eJ*RM r hs L n)) by grind]at dM;generalize eJ*RM r hs L n=x at *
  generalize eJ*((r:Rat)*(r:Rat)*UH hs L n)=y at *
  clear dY nG hT dR g3 g2 k1 hat htm sb eA hA hb hq dP0 nP0 kR nR dX hcall;grind
end
theorem aE0{a w:Nat}{A W U c k:Rat}(iA:Is a A)(iW:Is w W)(U0:0<=U)(fU:U=0\/(2:Rat)^(-400:Int)<=U)(c0:1/1000000000<=c)(hA:c*U<=A)(hz:U=0->A=0)(A1:A<=k)(W0:1/1000000<=W)(hk:k*W<=100000000000000000000000000000000000000000000000000):
  ∃z Z,fbF .mul a w=some z/\Is z Z/\999/1000*(c*W)*U<=Z/\(U=0->Z=0)/\Z<=2*(k*W):=by
 have et:=bR;have cU:=bU (show 0<=c by grind) U0;have A0:0<=A:=by grind
 have W00:0<=W:=by grind
 have AW0:=bU A0 W00;have AW:=cG A1 W00;have lo:=cG hA W00;obtain⟨z,Z,e,iZ,q⟩:=kH iA iW (kY (by rw[fZ AW0,bZ];grind));refine⟨z,Z,e,iZ,?_⟩;rcases fU with h|h
 ·have Z0:Z=0:=qC q (by rw[hz h,Rat.zero_mul]);refine⟨?_,λ_=>Z0,?_⟩
  ·rw[h,Z0];grind
  ·rw[Z0];grind
 ·have lowp:(2:Rat)^(-1000:Int)<=A*W:=by
   have cw:=aC c0 W0 (by decide +kernel) (show 0<=c by grind);have a:=aC cw h (bN (bG _)) (show 0<=c*W by exact bU (by grind) W00);have b:=cY (show(-1000:Int)<=-460 by decide);have e:(2:Rat)^(-400:Int)=(2:Rat)^(-460:Int)*(2:Rat)^(60:Int):=by rw[<-bO];rfl
   rw[e,show(2:Rat)^(60:Int)=1152921504606846976 by rw[show(60:Int)=((60:Nat):Int) by rfl,cN];rfl]at a;have p:=bG (-460);generalize (2:Rat)^(-460:Int)=x at *
   grind
  have d:=vV q (B:=A*W) (by rw[fZ AW0];exact R9) lowp;have d:=aA.1 d;have eA:=cG et AW0;have U1:0<U:=by have:=bG (-400);grind
  refine⟨by grind,λh=>by grind,by grind⟩
theorem aJo{a b m:Nat}{P W M e:Rat}(iP:Is a P)(iW:Is b W)(iM:Is m M)(hd:(P-W).abs<=e)(he:e=0\/(2:Rat)^(-1000:Int)<=e)(hM:1001/1000*e<=M)(hb:e<=iG)(R:Type)(X:Option R):nrT kO R a b m X=X:=by
 have et:=bR;refine aZx iP iW iM (kY (cR hd hb)) (λD q=>?_) X;rcases he with h|h
 ·have z:P-W=0:=by rw[h]at hd;have:=aA.1 hd;grind
  rw[qC q z,fO];rw[h]at hM;grind
 ·have d:=vV q hd h;have:=aL (D-(P-W)) (P-W);rw[show D-(P-W)+(P-W)=D by grind]at this;have e0:0<=e:=cR (aH _) hd;have:=cG et e0;grind
theorem bH0{n u:Nat}{r:Int}{B U:Rat}(n1:128<=n)(n2:n<=512)(r1:1<=r)(r2:r<=1000)(iB:Is u B)(B0:0<=B)(fB:B=0\/(2:Rat)^(-390:Int)<=B)(B1:B<=3000000000000000000000000000000000000000)(hU:(n:Rat)*U<=10344/10000*B)(U0:0<=U)(fU:U=0\/(2:Rat)^(-390:Int)<=U){a1 a2 am b1 b2 bm:Nat}{X Y:Cp}{P Q:Rat}(iX:IsZ a1 a2 X)(iY:IsZ b1 b2 Y)(iP:Is am P)(iQ:Is bm Q)(hXY:Nm (X-Y) (eJ*((r:Rat)*U)*(1752/10000000000)))(hPQ:(P-Q).abs<=eJ*((r:Rat)*(r:Rat)*U)*(1752/10000000000))(R:Type)(K:Option R):
  ftZ (nrT kO) n u (fI r) a1 a2 am b1 b2 bm K=K:=by
 have et:=bR;have P6:=aCj;have P7:=aS9;have a1':(128:Rat)<=(n:Rat):=by exact_mod_cast n1
 have a2':(n:Rat)<=512:=by exact_mod_cast n2
 have R1:(1:Rat)<=(r:Rat):=Rat.intCast_le_intCast.2 r1;have R2:(r:Rat)<=1000:=by have:(r:Rat)<=((1000:Int):Rat):=Rat.intCast_le_intCast.2 r2;exact this
 have ir:Is (fI r) (r:Rat):=jF (by omega);have hn:Is (floatOfInt .f64 (n:Int)) (((n:Int)):Rat):=pL (by omega);have en:(((n:Nat):Int):Rat)=(n:Rat):=by norm_cast
 rw[en]at hn;obtain⟨V,hV⟩:∃V,V=B/(n:Rat):=⟨_,rfl⟩;have nV:V*(n:Rat)=B:=by rw[hV];exact Rat.div_mul_cancel (by grind)
 have V0:0<=V:=by rw[hV,Rat.div_def];exact bU B0 (bN (Rat.inv_pos.2 (by grind)))
 have V1:V<=B:=by have:=dI (show(1:Rat)<=n by grind) V0;grind
 have zV:V=0->B=0:=λh=>by rw[<-nV,h];grind
 have fV:V=0\/(2:Rat)^(-400:Int)<=V:=by
  rcases fB with h|h;· left;rw[hV,h];grind
  ·right;have:=dI a2' V0;have e:(2:Rat)^(-390:Int)=(2:Rat)^(-400:Int)*(2:Rat)^(10:Int):=by rw[<-bO];rfl
   rw[e,show(2:Rat)^(10:Int)=1024 by rw[show(10:Int)=((10:Nat):Int) by rfl,cN];rfl]at h;grind
 have UV:U<=10344/10000*V:=by
  refine Rat.not_lt.1 λhl=>?_
  have:=Rat.mul_lt_mul_of_pos_left hl (show 0<(n:Rat) by grind);grind
 have big6:∀{x:Rat},x.abs<=iG->x.abs<(2:Rat)^(1022:Int):=λ{x} h=>by have h1:=cY (show(201:Int)<=1022 by decide);have h2:=fA 201;have h3:=bG (201-1);unfold iG at h;rw[show(201-1:Int)=200 by decide]at h2 h3;grind
 obtain⟨w0,W0,e0,i0,q0⟩:=tU iB hn (by grind) (big6 (by rw[<-hV,fZ V0,bZ];grind));rw[<-hV]at q0;have z0:V=0->W0=0:=λh=>by have:=q0.rep 0 0 (by decide) (by decide) (by rw[h];simp);rw[this,h]
 have l0:999/1000*V<=W0/\W0<=4000000000000000000000000000000000000000:=by
  rcases fV with h|h;· rw[z0 h,h];constructor<;>grind
  ·have d:=aTl q0 (B:=V) (by rw[fZ V0];exact R9) (cR (cY (by decide)) h);have d:=aA.1 d;have:=cG et V0;constructor<;>grind
 obtain⟨w1,W1,e1,i1,l1,z1,m1⟩:=aE0 i0 aEk V0 fV (c:=999/1000) (by decide +kernel) l0.1 z0 l0.2 (by decide +kernel) (by decide +kernel);obtain⟨w2,W2,e2,i2,l2,z2,m2⟩:=aE0 i1 bH7 V0 fV (by decide +kernel) l1 z1 (cR m1 (show _<=(20000000000000000000000000000000000000000:Rat) by decide +kernel)) (by grind) (by grind);obtain⟨w3,W3,e3,i3,l3,z3,m3⟩:=aE0 i2 ir V0 fV (by grind) l2 z2 (cR m2 (show _<=(200000000000000000000000000000000000000000:Rat) by grind)) (by grind) (by grind);have cP:1<=999/1000*(999/1000*(999/1000*(999/1000*2)*(eJ/2))*(r:Rat)):=by have:=aC (show 1<=999/1000*(999/1000*(999/1000*(999/1000*2)*(eJ/2))) by grind) R1 (by decide) (by grind);grind
 obtain⟨w4,W4,e4,i4,l4,z4,m4⟩:=aE0 i3 bMe V0 fV (by grind) l3 z3 (cR m3 (show _<=(400000000000000000000000000000000000000000000:Rat) by grind)) (by decide +kernel) (by decide +kernel);obtain⟨w5,W5,e5,i5,l5,z5,m5⟩:=aE0 i4 ir V0 fV (by grind) l4 z4 (cR m4 (show _<=(4000000000000000000000000000000000000000:Rat) by decide +kernel)) (by grind) (by grind);have RU:=bU (show 0<=(r:Rat) by grind) U0;have RRU:=bU (show 0<=(r:Rat) by grind) RU;have PR:=bU (show 0<=eJ by grind) (show 0<=(r:Rat) by grind);have PRR:=bU PR (show 0<=(r:Rat) by grind);have h4:=dI UV PR;have h5:=dI UV PRR;have PRV:=bU PR V0;have PRRV:=bU PRR V0;have k4:1001/1000*(eJ*((r:Rat)*U)*(1752/10000000000))<=W4:=by
  have v:999/1000*(999/1000*(999/1000*(999/1000*(999/1000*2)*(eJ/2))*(r:Rat))*(1/262144))*V=999/1000*(999/1000)*(999/1000)*(999/1000)*(999/1000)/262144*(eJ*(r:Rat)*V):=by grind
  rw[v]at l4;generalize eJ*(r:Rat)*V=x at *
  rw[show eJ*((r:Rat)*U)=eJ*(r:Rat)*U by grind];generalize eJ*(r:Rat)*U=y at *
  clear hXY hPQ iX iY l1 l2 l3 l5 m1 m2 m3 m4 m5 z0 z1 z2 z3 z4 z5;grind
 have k5:1001/1000*(eJ*((r:Rat)*(r:Rat)*U)*(1752/10000000000))<=W5:=by
  have v:999/1000*(999/1000*(999/1000*(999/1000*(999/1000*(999/1000*2)*(eJ/2))*(r:Rat))*(1/262144))*(r:Rat))*V=999/1000*(999/1000)*(999/1000)*(999/1000)*(999/1000)*(999/1000)/262144*(eJ*(r:Rat)*(r:Rat)*V):=by grind
  rw[v]at l5;generalize eJ*(r:Rat)*(r:Rat)*V=x at *
  rw[show eJ*((r:Rat)*(r:Rat)*U)=eJ*(r:Rat)*(r:Rat)*U by grind];generalize eJ*(r:Rat)*(r:Rat)*U=y at *
  clear hXY hPQ iX iY l1 l2 l3 l4 m1 m2 m3 m4 m5 z0 z1 z2 z3 z4 z5;grind
 have U9:U<=4000000000000000000000000000000000000000:=by grind
 have b4:eJ*((r:Rat)*U)*(1752/10000000000)<=iG:=by
  have:=aC P7 (aC R2 U9 U0 (by decide)) RU (by decide +kernel);rw[bZ];generalize eJ*((r:Rat)*U)=y at *
  grind
 have b5:eJ*((r:Rat)*(r:Rat)*U)*(1752/10000000000)<=iG:=by
  have RR:=aC R2 R2 (show 0<=(r:Rat) by grind) (by decide);have:=aC P7 (aC RR U9 U0 (by decide +kernel)) (by grind) (by decide +kernel);rw[bZ];generalize eJ*((r:Rat)*(r:Rat)*U)=y at *
  grind
 have f0:∀{c:Rat},1/1000000000<=c->c*U=0\/(2:Rat)^(-1000:Int)<=c*U:=λ{c} hc=>by
  rcases fU with h|h;· left;rw[h];grind
  ·right;have a:=aC hc h (bN (bG _)) (show 0<=c by grind);have b:=cY (show(-1000:Int)<=-450 by decide);have e:(2:Rat)^(-390:Int)=(2:Rat)^(-450:Int)*(2:Rat)^(60:Int):=by rw[<-bO];rfl
   rw[e,show(2:Rat)^(60:Int)=1152921504606846976 by rw[show(60:Int)=((60:Nat):Int) by rfl,cN];rfl]at a;have p:=bG (-450);generalize (2:Rat)^(-450:Int)=x at *
   grind
 have pr1:6<=eJ*(r:Rat):=by have:=aC P6 R1 (by decide) (show 0<=eJ by grind);grind
 have prr1:6<=eJ*(r:Rat)*(r:Rat):=by have:=aC pr1 R1 (by decide) PR;grind
 have f4:eJ*((r:Rat)*U)*(1752/10000000000)=0\/(2:Rat)^(-1000:Int)<=eJ*((r:Rat)*U)*(1752/10000000000):=by rw[show eJ*((r:Rat)*U)*(1752/10000000000)=eJ*(r:Rat)*(1752/10000000000)*U by grind];exact f0 (by grind)
 have f5:eJ*((r:Rat)*(r:Rat)*U)*(1752/10000000000)=0\/(2:Rat)^(-1000:Int)<=eJ*((r:Rat)*(r:Rat)*U)*(1752/10000000000):=by rw[show eJ*((r:Rat)*(r:Rat)*U)*(1752/10000000000)=eJ*(r:Rat)*(r:Rat)*(1752/10000000000)*U by grind];exact f0 (by grind)
 unfold ftZ;rw[cB,aK e0,aK e1,aK e2,aK e3,aK e4];have h1:=hXY.re;have h2:=hXY.im;rw[aJo iX.1 iY.1 i4 h1 f4 k4 b4,aJo iX.2 iY.2 i4 h2 f4 k4 b4,aK e5,aJo iP iQ i5 hPQ f5 k5 b5]
theorem bZ6:Go.Proofs.YtaogignikkjkjaaGreat.LawM:=λxs cx cy r n hr n1 n2 h1 h6 hb=>by obtain⟨S,g⟩:=bL1 hr n1 n2 h1 h6 hb;obtain⟨dK,zK,DK,ZK,z,w,c,C,s,κ,v,vM,V,wM,L,T⟩:=bK1 g;obtain⟨p,q,u,B,hFt,iB,hU,B1,B0,fB⟩:=bSl T;obtain⟨a1,a2,am,X,Mo,hO,iX,iM,dX,dM⟩:=bD3 T;obtain⟨b1,b2,bm,Y,Mb,hB,iY,iN,dY,dN⟩:=bYn T;obtain⟨U0,_,fU⟩:=aA2 T;refine⟨dK,zK,p,q,u,a1,a2,am,b1,b2,bm,hFt,hO,hB,λR K=>?_⟩;refine bH0 n1 n2 hr.r1 hr.r2 iB B0 fB B1 hU U0 fU iX iY iM iN ((dX.tri dY.comm).mono (by grind)) ?_ R K;have t:=aL (Mo-eJ/2*((r:Rat)*(r:Rat))*(G3 (xs.map mB) s κ).im) (eJ/2*((r:Rat)*(r:Rat))*(G3 (xs.map mB) s κ).im-Mb);rw[lQ (eJ/2*((r:Rat)*(r:Rat))*(G3 (xs.map mB) s κ).im) Mb,show Mo-eJ/2*((r:Rat)*(r:Rat))*(G3 (xs.map mB) s κ).im+(eJ/2*((r:Rat)*(r:Rat))*(G3 (xs.map mB) s κ).im-Mb)=Mo-Mb by grind]at t;grind
end Go.Vx
