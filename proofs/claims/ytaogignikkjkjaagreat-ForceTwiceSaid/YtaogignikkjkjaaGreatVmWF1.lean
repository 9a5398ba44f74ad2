/- A part; no conditions. -/
import Derived.Test.YtaogignikkjkjaaGreatVmWE5
set_option maxRecDepth 1000000
set_option maxHeartbeats 1000000
set_option linter.all false
open Go.Vx.Cp renaming of->C9,zero->Z9,one->O9,mul_assoc->M9,ext'->E9,sub_re->S9,sub_im->T9
open Rat renaming le_refl->R9
namespace Go.Vx
open Go.Vm Go.Proofs Ieee
theorem cAs{α β:Type}[Inhabited β]{P:α->α->Prop}{Q:α->α->β->Prop}(h:∀a b,P a b->∃x,Q a b x):∃f:α->α->β,∀a b,P a b->Q a b (f a b):=by
 have:=Classical.axiomOfChoice (r:=λ(a:α×α) x=>P a.1 a.2->Q a.1 a.2 x) λa=>by
  by_cases ha:P a.1 a.2;· obtain⟨x,hx⟩:=h a.1 a.2 ha;exact⟨x,λ_=>hx⟩
  ·exact⟨default,λh=>absurd h ha⟩
 obtain⟨f,hf⟩:=this;exact⟨λa b=>f (a,b),λa b=>hf (a,b)⟩
theorem xW{a b:Int}(ha:a.natAbs<=1000)(hb:b.natAbs<=1000)(h:fI a=fI b):a=b:=by have i1:Is (fI a) (a:Rat):=jF (by omega);have i2:Is (fI b) (b:Rat):=jF (by omega);rw[h]at i1;have:=bIa i1 i2;exact Rat.intCast_inj.1 this
theorem bR2{a b:Th}(ha:qW a)(hb:qW b)(h:a.el=b.el):a=b:=by
 have xa:=ha.xy;have xb:=hb.xy;have pa:=ha.pow;have pb:=hb.pow;cases a with|mk k x y s t p=>
 cases b with|mk k' x' y' s' t' p'=>
 unfold Th.el at h;simp only[El.mk.injEq]at h;obtain⟨h1,h2,h3,h4,h5,h6⟩:=h;simp only at xa xb pa pb;rw[h1,xW xa.1 xb.1 h2,xW xa.2.1 xb.2.1 h3,xW xa.2.2.1 xb.2.2.1 h4,xW xa.2.2.2 xb.2.2.2 h5,xW pa pb h6]
theorem bVy{hs:List Th}(hf:∀h∈hs,qW h):∃th:El->Th,∀h∈hs,th h.el=h:=by
 have:=Classical.axiomOfChoice (r:=λ(x:El)(h:Th)=>∀h'∈hs,h'.el=x->h=h') λx=>by
  by_cases hx:∃h∈hs,h.el=x;· obtain⟨h,hm,rfl⟩:=hx;exact⟨h,λh' hm' e=>bR2 (hf h hm) (hf h' hm') e.symm⟩
  ·exact⟨⟨0,0,0,0,0,0⟩,λh' hm' e=>absurd ⟨h',hm',e⟩ hx⟩
 obtain⟨f,hf⟩:=this;exact⟨f,λh hm=>hf h.el h hm rfl⟩
theorem xI{α:Type}[Inhabited α]{f g:α->Cp}{b:α->Rat}{ys:List α}(h:∀y∈ys,Nm (f y-g y) (b y)):Nm (lsm f ys-lsm g ys) (lsr b ys):=by rw[wH,wH,aEp];exact wW λk hk=>h _ (xA hk)
theorem aSj{α:Type}[Inhabited α]{f:α->Cp}{b:α->Rat}{ys:List α}(h:∀y∈ys,Nm (f y) (b y)):Nm (lsm f ys) (lsr b ys):=by rw[wH,aEp];exact jE λk hk=>h _ (xA hk)
theorem aTm{r t m W M x:Rat}(ht:t≠0)(hW:W≠0):r/t*(600*m/W)*(x*(t*W)*M)=600*x*(r*m*M):=by
 have a:=Rat.mul_inv_cancel _ ht;have b:=Rat.mul_inv_cancel _ hW;rw[Rat.div_def,Rat.div_def];generalize t⁻¹=t' at *
 generalize W⁻¹=W' at *
 have:r*t'*(600*m*W')*(x*(t*W)*M)=600*x*(r*m*M)*(t*t')*(W*W'):=by grind
 rw[this,a,b];grind
section
variable{GM:Prop}{cx cy r:Int}{S:jO (fI cx) (fI cy) (fI r)}{hs:List Th}{n:Nat}{dK zK dM zM:Nat->Nat×Nat}{DK ZK DM ZM z w zm wm:Nat->Cp}{c:Th->Nat×Nat}{C:Th->Cp}{s:Th->Sd}{κ:Th->Cp}{v vM:Th->Nat->Nat×Nat}{V:Th->Nat->Cp}{wM:Th->Nat->Nat}{L:Th->Nat->Rat}(T:Dat GM S hs n dK zK dM zM DK ZK DM ZM z w zm wm c C s κ v vM V wM L)
include T
theorem bB3{dv:Th->Th->(Nat×Nat)×Cp}(hdv:∀X Y,(X∈hs/\Y∈hs/\gV S X=true/\gV S Y=false)->IsZ (dv X Y).1.1 (dv X Y).1.2 (dv X Y).2/\Rl (dv X Y).2 (dXY cx cy r κ s X Y) (105*eps)/\bCt X.el (nuH X:Int) Y.el (dv X Y).1){X:Th}(hX:X∈hs)(iX:gV S X=true):
  ∃(f:Nat->Nat×Nat)(q:Nat×Nat)(Q:Cp),aGf ((hs.filter λh=>!gV S h).map λY=>(dv X Y).1) f/\bQ2 X.el (nuH X:Int) (f ((hs.filter λh=>!gV S h).map λY=>(dv X Y).1).length) q/\IsZ q.1 q.2 Q/\
   Nm (Q-Fx X (C X)*lsm (dXY cx cy r κ s X) (hs.filter λh=>!gV S h)) (114*eps*(361000*(r:Rat)*MH hs L n)*mT L n X)/\Nm Q (361000*(r:Rat)*MH hs L n*mT L n X):=by
 have ep:=bI;have et:=bR;obtain⟨R1,R2⟩:=Rq T;have M0:=tI T;have l6:=T.good.len6;obtain⟨a,b,h8,bX,D⟩:=oS T hX iX;obtain⟨W1,m0,bκ,fm⟩:=sO T hX;have t0:=aT7 R1 R2 h8;have W2:(s X).W<=593:=by rw[a];show wL (jU _ qB _)<=_;rw[aCm];exact aYr (by omega)
 have tW0:1/1000000000000000000000000000<=pH r X*(s X).W:=by have:=aC t0.1 W1 (by decide) (by grind);grind
 have tW1:pH r X*(s X).W<=40320*593:=aC t0.2 W2 (by grind) (by decide);have hmem:∀Y∈hs.filter (λh=>!gV S h),Y∈hs/\gV S Y=false:=λY hY=>by obtain⟨p,q⟩:=List.mem_filter.1 hY;exact⟨p,by simpa using q⟩
 have sz:=λY (hY:Y∈hs.filter (λh=>!gV S h))=>bRy T hX (hmem Y hY).1 iX (hmem Y hY).2
 have pr:=λY (hY:Y∈hs.filter (λh=>!gV S h))=>hdv X Y ⟨hX,(hmem Y hY).1,iX,(hmem Y hY).2⟩
 have c0:0<=pH r X*(s X).W:=by grind
 obtain⟨f,O,sT,iO,dO,nO⟩:=aDd (ys:=hs.filter λh=>!gV S h) (wf:=λY=>(dv X Y).1) (vf:=λY=>(dv X Y).2) (bf:=λY=>601*(pH r X*(s X).W)*mT L n Y) (B:=601*(pH r X*(s X).W)*MH hs L n) (Nat.le_trans (List.length_filter_le _ _) l6) (λY hY=>(pr Y hY).1) (λY hY=>by
   have e:=((pr Y hY).2.1.err (sz Y hY)).near (sz Y hY);refine e.mono ?_;have y0:=bU c0 (sO T (hmem Y hY).1).2.1;have ey:=cG et y0;rw[Rat.mul_assoc (6006/10),Rat.mul_assoc 601];generalize pH r X*(s X).W*mT L n Y=x at *
   clear sz pr e;grind) (by
   rw[mI];exact dI (pK T _) (by grind)) (tY (by grind) M0.2.2) (by
   have:=aC (show 601*(pH r X*(s X).W)<=601*(40320*593) by grind) M0.2.1 M0.1 (by decide +kernel);rw[bZ];grind)
 have F:=aQx T hX iX;have eρ:=aTm (r:=(r:Rat)) (m:=mT L n X) (M:=MH hs L n) (x:=1001/1000*601) (show pH r X≠0 by grind) (show(s X).W≠0 by grind);have eσ:1001/1000*(601*(pH r X*(s X).W)*MH hs L n)=1001/1000*601*(pH r X*(s X).W)*MH hs L n:=by grind
 have mM0:=bU m0 M0.1;have rmM0:0<=(r:Rat)*mT L n X*MH hs L n:=by have:=bU (show 0<=(r:Rat) by grind) mM0;grind
 have fmM:(r:Rat)*mT L n X*MH hs L n=0\/(2:Rat)^(-400:Int)<=(r:Rat)*mT L n X*MH hs L n:=by
  rcases fm with h|h;· left;rw[h];grind
  rcases M0.2.2 with g|g;· left;rw[g];grind
  right;have e:=aC h g (bN (bG _)) m0;rw[<-bO,show(-200+-200:Int)=-400 by decide]at e;have e2:=cG R1 mM0;grind
 have mMb:(r:Rat)*mT L n X*MH hs L n<=2000*1220400000000000000*1220400000000000000:=by
  have mb:mT L n X<=1220400000000000000:=by refine cR ?_ M0.2.1;rw[bQ0 T];exact lsr_one (λh hm=>(sO T hm).2.1) hX
  have h1:=aC R2 mb m0 (by decide);exact aC h1 M0.2.1 M0.1 (by decide +kernel)
 rw[eσ]at nO;obtain⟨q,Q,iQ,dQ,hQ⟩:=bU0 (T.good.fine X hX) D iO nO F (by
   rw[show(r:Rat)/pH r X*(600*mT L n X/(s X).W)=(r:Rat)*600*((pH r X)⁻¹*((s X).W)⁻¹)*mT L n X by rw[Rat.div_def,Rat.div_def];grind];refine tY ?_ fm;have u1:1/40320<=(pH r X)⁻¹:=by
    refine Rat.not_lt.1 λhl=>?_
    have:=Rat.mul_inv_cancel (pH r X) (by grind);have h2:=Rat.mul_lt_mul_of_pos_left hl (show 0<pH r X by grind);grind
   have u2:1/593<=((s X).W)⁻¹:=by
    refine Rat.not_lt.1 λhl=>?_
    have:=Rat.mul_inv_cancel ((s X).W) (by grind);have h2:=Rat.mul_lt_mul_of_pos_left hl (show 0<(s X).W by grind);grind
   have u3:=aC u1 u2 (by decide +kernel) (cR (by decide +kernel) u1);have u4:=aC (show 600<=(r:Rat)*600 by grind) u3 (by decide +kernel) (by grind);exact cR (by decide +kernel) u4) (tY (by grind) M0.2.2) (by
   rw[eρ];rcases fmM with h|h;· left;rw[h];grind
   ·right;have e2:(2:Rat)^(-390:Int)=(2:Rat)^(-400:Int)*(2:Rat)^(10:Int):=by rw[<-bO];rfl
    rw[e2,show(2:Rat)^(10:Int)=1024 by rw[show(10:Int)=((10:Nat):Int) by rfl,cN];rfl];have:=bG (-400);generalize (2:Rat)^(-400:Int)=p at *
    grind) (by rw[eρ];grind)
 rw[eρ]at dQ;have k1:Nm (lsm (λY=>(dv X Y).2) (hs.filter λh=>!gV S h)-lsm (dXY cx cy r κ s X) (hs.filter λh=>!gV S h)) (105*eps*(601*(pH r X*(s X).W)*MH hs L n)):=by
  have:=xI (f:=λY=>(dv X Y).2) (g:=dXY cx cy r κ s X) (b:=λY=>6006/10*(pH r X*(s X).W)*(105*eps)*mT L n Y) (ys:=hs.filter λh=>!gV S h) (λY hY=>((pr Y hY).2.1.err (sz Y hY)).mono (by grind));refine this.mono ?_;rw[mI];have h2:=dI (pK T (λh=>!gV S h)) (show 0<=6006/10*(pH r X*(s X).W)*(105*eps) from bU (by grind) (by grind));refine cR h2 ?_;have x0:=bU (bU c0 M0.1) (bN ep);generalize pH r X*(s X).W=y at *
  grind
 have k2:Nm (O-lsm (dXY cx cy r κ s X) (hs.filter λh=>!gV S h)) (111*eps*(601*(pH r X*(s X).W)*MH hs L n)):=(dO.tri k1).mono (by grind);have k3:Nm (lsm (dXY cx cy r κ s X) (hs.filter λh=>!gV S h)) (6006/10*(pH r X*(s X).W)*MH hs L n):=by refine(aSj sz).mono ?_;rw[mI];exact dI (pK T _) (by grind)
 have k4:=F.mul k2;rw[show(r:Rat)/pH r X*(600*mT L n X/(s X).W)*(111*eps*(601*(pH r X*(s X).W)*MH hs L n))=111*eps*((r:Rat)/pH r X*(600*mT L n X/(s X).W)*(601*(pH r X*(s X).W)*MH hs L n)) by grind,aTm (by grind) (by grind)]at k4;have k5:=F.mul k3;rw[aTm (by grind) (by grind)]at k5;have exmM:=bU (bN ep) rmM0;have eemM:=cG et rmM0;rw[Cp.mul_sub]at k4;have k6:=dQ.tri k4;have eR:361000*(r:Rat)*MH hs L n*mT L n X=361000*((r:Rat)*mT L n X*MH hs L n):=by grind
 have eR2:114*eps*(361000*(r:Rat)*MH hs L n)*mT L n X=114*361000*(eps*((r:Rat)*mT L n X*MH hs L n)):=by grind
 refine⟨f,q,Q,sT,hQ,iQ,?_,?_⟩
 ·rw[eR2];refine k6.mono ?_;generalize (r:Rat)*mT L n X*MH hs L n=x at *
  clear sz pr k1 k2 k3 k4 k5 dQ eR eR2 fmM mMb;grind
 ·rw[eR];refine(k6.near k5).mono ?_;generalize (r:Rat)*mT L n X*MH hs L n=x at *
  clear sz pr k1 k2 k3 k4 k5 dQ eR eR2 fmM mMb;grind
 where
 lsr_one {f:Th->Rat}:∀{l:List Th}(h0:∀h∈l,0<=f h){X:Th}(hX:X∈l),f X<=lsr f l:=λ{l} h0 {X} hX=>by
  rw[aEp];obtain⟨i,hi,e⟩:=List.getElem_of_mem hX;have e2:f X=(λk=>f (l.getD k default)) i:=by show f X=f (l.getD i default);rw[List.getD_eq_getElem?_getD,List.getElem?_eq_getElem hi,e];rfl
  rw[e2];have h0':∀k,k<l.length->0<=(λk=>f (l.getD k default)) k:=λk hk=>h0 _ (xA hk)
  have a:=aBw h0' (j:=i+1) (by omega);have b:=eZ (f:=λk=>f (l.getD k default)) (n:=i) λk hk=>h0' k (by omega)
  have e3:rsm (λk=>f (l.getD k default)) (i+1)=rsm (λk=>f (l.getD k default)) i+f (l.getD i default):=rfl;rw[e3]at a;show f (l.getD i default)<=_;grind
theorem aHt:∃y1 y2 Z,aD Tryz.prog 11 [cW 0 (els hs).length (els hs).length,ciV (fI cx) (fI cy) (fI r)] ⟨1,[(0,.cells (cellsOf (els hs)) 4)]⟩ (reV y1 y2 0)/\IsZ y1 y2 Z/\
  Nm (Z-C9 (r:Rat)*G2 hs s κ) ((r:Rat)*UH hs L n*(242*eps*361000))/\Nm (G2 hs s κ) (722725*UH hs L n):=by
 have ep:=bI;have et:=bR;obtain⟨R1,R2⟩:=Rq T;have M0:=tI T;have MU:=cCr T;have el:=jZ hs;have l6:=T.good.len6;obtain⟨th,hth⟩:=bVy T.good.fine;obtain⟨dv,hdv⟩:=cAs (α:=Th) (β:=(Nat×Nat)×Cp) (P:=λX Y=>X∈hs/\Y∈hs/\gV S X=true/\gV S Y=false) (Q:=λX Y x=>IsZ x.1.1 x.1.2 x.2/\Rl x.2 (dXY cx cy r κ s X Y) (105*eps)/\bCt X.el (nuH X:Int) Y.el x.1) (λX Y ⟨hX,hY,iX,iY⟩=>by have DY:=T.D Y hY;rw[iY]at DY;obtain⟨_,_,h8,bX,_⟩:=oS T hX iX;obtain⟨a,V',l,e,b,d,f,_⟩:=bRz (T.good.fine X hX) (T.good.fine Y hY) R1 bX DY (ν:=nuH X) (by omega);refine⟨(a,V'),b,?_,f⟩;unfold dXY;rw[e];exact d);obtain⟨tm,htm⟩:=bFj (β:=(Nat->Nat×Nat)×(Nat×Nat)×Cp) (l:=hs) (p:=λX x=>gV S X=true->aGf ((hs.filter λh=>!gV S h).map λY=>(dv X Y).1) x.1/\bQ2 X.el (nuH X:Int) (x.1 ((hs.filter λh=>!gV S h).map λY=>(dv X Y).1).length) x.2.1/\IsZ x.2.1.1 x.2.1.2 x.2.2/\
   Nm (x.2.2-Fx X (C X)*lsm (dXY cx cy r κ s X) (hs.filter λh=>!gV S h)) (114*eps*(361000*(r:Rat)*MH hs L n)*mT L n X)/\Nm x.2.2 (361000*(r:Rat)*MH hs L n*mT L n X)) (λX hX=>by
  by_cases iX:gV S X=true;· obtain⟨f,q,Q,h⟩:=bB3 T hdv hX iX;exact⟨(f,q,Q),λ_=>h⟩
  ·exact⟨(λ_=>(0,0),(0,0),Z9),λh=>absurd h iX⟩)
 have hin:∀X∈hs.filter (gV S),X∈hs/\gV S X=true:=λX hX=>List.mem_filter.1 hX
 have rM0:0<=361000*(r:Rat)*MH hs L n:=bU (by grind) M0.1;have MM0:=bU M0.1 M0.1;have eB:361000*(r:Rat)*MH hs L n*MH hs L n=361000*(r:Rat)*(MH hs L n*MH hs L n):=by grind
 have bMM:=aC M0.2.1 M0.2.1 M0.1 (by decide);obtain⟨f,Y0,sT,iY,dY,nY⟩:=aDd (ys:=hs.filter (gV S)) (wf:=λX=>(tm X).2.1) (vf:=λX=>(tm X).2.2) (bf:=λX=>361000*(r:Rat)*MH hs L n*mT L n X) (B:=361000*(r:Rat)*MH hs L n*MH hs L n) (Nat.le_trans (List.length_filter_le _ _) l6) (λX hX=>(htm X (hin X hX).1 (hin X hX).2).2.2.1) (λX hX=>(htm X (hin X hX).1 (hin X hX).2).2.2.2.2) (by
   rw[mI];exact dI (pK T _) rM0) (by
   rw[eB];refine kB (by grind) MM0 ?_;rcases M0.2.2 with h|h;· left;rw[h];grind
   ·right;have e:=aC h h (bN (bG _)) M0.1;rwa[<-bO,show(-200+-200:Int)=-400 by decide]at e) (by
   rw[eB,bZ];have:=aC (show 361000*(r:Rat)<=361000*2000 by grind) bMM MM0 (by decide +kernel);grind)
 have iTwo:Is 4611686018427387904 (2:Rat):=aEk;have a2:(2:Rat).abs=2:=fZ (by decide);obtain⟨y1,y2,Z,iZ,dZ,hZ⟩:=tG iY iTwo nY (by
   rw[a2,eB,show 1001/1000*(361000*(r:Rat)*(MH hs L n*MH hs L n))*2=1001/500*361000*(r:Rat)*(MH hs L n*MH hs L n) by grind];refine kB (by grind) MM0 ?_;rcases M0.2.2 with h|h;· left;rw[h];grind
   ·right;have e:=aC h h (bN (bG _)) M0.1;rwa[<-bO,show(-200+-200:Int)=-400 by decide]at e) (by
   rw[a2,eB,bZ];have:=aC (show 361000*(r:Rat)<=361000*2000 by grind) bMM MM0 (by decide +kernel);grind)
 let D:SqD:=⟨λx=>gV S (th x),λx=>(nuH (th x):Int),λx y=>(dv (th x) (th y)).1,λx=>(tm (th x)).2.1,λx=>(tm (th x)).1⟩
 have oz:∀X∈hs,D.oZ X.el (els hs) (els hs).length=(hs.filter λh=>!gV S h).map λY=>(dv X Y).1:=λX hX=>by
  show(((els hs).take (els hs).length).filter λy=>!gV S (th y)).map (λy=>(dv (th X.el) (th y)).1)=_;rw[List.take_length,hth X hX];unfold els;rw[List.filter_map,List.map_map];have e1:hs.filter ((λy=>!gV S (th y))∘Th.el)=hs.filter λh=>!gV S h:=List.filter_congr λh hm=>by show(!gV S (th h.el))=_;rw[hth h hm]
  rw[e1];exact List.map_congr_left λY hY=>by show(dv X (th Y.el)).1=_;rw[hth Y (List.mem_filter.1 hY).1]
 have lz:D.lZ (els hs) (els hs).length=(hs.filter (gV S)).map λX=>(tm X).2.1:=by
  show(((els hs).take (els hs).length).filter λy=>gV S (th y)).map (λy=>(tm (th y)).2.1)=_;rw[List.take_length];unfold els;rw[List.filter_map,List.map_map];have e1:hs.filter ((λy=>gV S (th y))∘Th.el)=hs.filter (gV S):=List.filter_congr λh hm=>by show gV S (th h.el)=_;rw[hth h hm]
  rw[e1];exact List.map_congr_left λY hY=>by show(tm (th Y.el)).2.1=_;rw[hth Y (List.mem_filter.1 hY).1]
 have mem:∀x∈els hs,∃h∈hs,x=h.el/\th x=h:=λx hx=>by unfold els at hx;obtain⟨h,hm,rfl⟩:=List.mem_map.1 hx;exact⟨h,hm,rfl,hth h hm⟩
 have hD:bYg D (fI cx) (fI cy) (fI r) (els hs):=by
  refine⟨λx hx=>?_,λx hx hi=>?_,λx hx hi y hy hj=>?_,λx hx hi=>?_,λx hx hi=>?_⟩;· obtain⟨h,hm,rfl,e⟩:=mem x hx;show bJ1 _ _ _ (gV S (th h.el)) _;rw[e];exact cBh T.good hm λk=>⟨_,_,(aDj (T.D h hm) k).1⟩
  ·obtain⟨h,hm,rfl,e⟩:=mem x hx;have hi':gV S (th h.el)=true:=hi;rw[e]at hi';show floatToIntVal .f64 (fI h.p) .i64=some (nuH (th h.el):Int)/\(0:Int)<=(nuH (th h.el):Int)/\(nuH (th h.el):Int)<=1000;rw[e];obtain⟨_,_,h8,_,D⟩:=oS T hm hi';have hp:=(T.good.fine h hm).pow;have ti:floatToIntVal .f64 (fI h.p) .i64=some h.p:=xR (jF (by omega)) (by omega);refine⟨?_,by omega,by omega⟩;rw[ti];congr 1;by_cases k:h.kind=2
   ·rw[bUn T.good hm k];unfold nuH;rw[if_pos k];rfl
   ·unfold nuH;rw[if_neg k];have ib:gV S h=true:=hi';unfold gV at ib;rcases aOw T.good hm with k' | k' | ⟨k',m,m1,m8,hp'⟩|⟨k',_⟩
    ·rw[k']at ib;cases ib
    ·exact absurd k' k
    ·rw[hp'];rfl
    ·rw[k']at ib;cases ib
  ·obtain⟨X,hX,rfl,e⟩:=mem x hx;obtain⟨Y,hY,rfl,e'⟩:=mem y hy;have hi':gV S (th X.el)=true:=hi;have hj':gV S (th Y.el)=false:=hj;rw[e]at hi';rw[e']at hj';show bCt X.el (nuH (th X.el):Int) Y.el (dv (th X.el) (th Y.el)).1;rw[e,e'];exact(hdv X Y ⟨hX,hY,hi',hj'⟩).2.2
  ·obtain⟨X,hX,rfl,e⟩:=mem x hx;have hi':gV S (th X.el)=true:=hi;rw[e]at hi';rw[oz X hX];show aGf _ (tm (th X.el)).1;rw[e];exact(htm X hX hi').1
  ·obtain⟨X,hX,rfl,e⟩:=mem x hx;have hi':gV S (th X.el)=true:=hi;rw[e]at hi';rw[oz X hX];show bQ2 X.el (nuH (th X.el):Int) ((tm (th X.el)).1 _) (tm (th X.el)).2.1;rw[e];exact(htm X hX hi').2.1
 have hcall:=aNc (c:=(els hs).length) (sz:=4) (nN (els hs)) (by omega) hD (cL _).2.1 (aLo T true) (f:=f) (by rw[lz];exact sT) (u:=y1) (v:=y2) (by rw[lz];exact hZ) (λR k=>nK iZ.1 iZ.2 k);have k1:Nm (lsm (λX=>(tm X).2.2) (hs.filter (gV S))-lsm (λX=>Fx X (C X)*lsm (dXY cx cy r κ s X) (hs.filter λh=>!gV S h)) (hs.filter (gV S))) (114*eps*(361000*(r:Rat)*MH hs L n)*MH hs L n):=by refine(xI λX hX=>(htm X (hin X hX).1 (hin X hX).2).2.2.2.1).mono ?_;rw[mI];exact dI (pK T _) (bU (by grind) rM0)
 have k2:=dY.tri k1;have k3:Nm (C9 2*(Y0-lsm (λX=>Fx X (C X)*lsm (dXY cx cy r κ s X) (hs.filter λh=>!gV S h)) (hs.filter (gV S)))) (2*(6*eps*(361000*(r:Rat)*MH hs L n*MH hs L n)+114*eps*(361000*(r:Rat)*MH hs L n)*MH hs L n)):=(oV (by rw[a2];exact R9)).mul k2;have k4:=dZ.add k3;rw[Cp.mul_sub,<-bQy T]at k4;have e4:Z-C9 2*Y0+(C9 2*Y0-C9 (r:Rat)*G2 hs s κ)=Z-C9 (r:Rat)*G2 hs s κ:=by
  refine E9 ?_ ?_;· simp only[Cp.add_re,S9];grind
  ·simp only[Cp.add_im,T9];grind
 rw[e4,a2]at k4;have rU:=dI MU (show 0<=(r:Rat) by grind);have rMM:=bU (show 0<=(r:Rat) by grind) MM0;have erU:=dI rU (bN ep);have erMM:=bU (bN ep) rMM;refine⟨y1,y2,Z,hcall,iZ,k4.mono ?_,?_⟩
 ·have q1:eps/2*(1001/1000*(361000*(r:Rat)*MH hs L n*MH hs L n)*2)=1001/1000*361000*(eps*((r:Rat)*(MH hs L n*MH hs L n))):=by grind
  have q2:2*(6*eps*(361000*(r:Rat)*MH hs L n*MH hs L n)+114*eps*(361000*(r:Rat)*MH hs L n)*MH hs L n)=240*361000*(eps*((r:Rat)*(MH hs L n*MH hs L n))):=by grind
  have q3:(r:Rat)*UH hs L n*(242*eps*361000)=242*361000*(eps*((r:Rat)*UH hs L n)):=by grind
  rw[q1,q2,q3];clear dY k1 k2 k3 k4 nY dZ;grind
 ·have n1:Nm (lsm (λX=>Fx X (C X)*lsm (dXY cx cy r κ s X) (hs.filter λh=>!gV S h)) (hs.filter (gV S))) ((6*eps*(361000*(r:Rat)*MH hs L n*MH hs L n)+114*eps*(361000*(r:Rat)*MH hs L n)*MH hs L n)+1001/1000*(361000*(r:Rat)*MH hs L n*MH hs L n)):=k2.comm.near nY;have n2:Nm (C9 (r:Rat)*G2 hs s κ) (2*((6*eps*(361000*(r:Rat)*MH hs L n*MH hs L n)+114*eps*(361000*(r:Rat)*MH hs L n)*MH hs L n)+1001/1000*(361000*(r:Rat)*MH hs L n*MH hs L n))):=by rw[bQy T];exact(oV (by rw[a2];exact R9)).mul n1
  have eerMM:=cG et rMM;refine bIq (n:=(r:Rat)) (by grind) (n2.mono ?_) |>.mono (show 722725*(MH hs L n*MH hs L n)<=_ from ?_)
  ·have q2:2*((6*eps*(361000*(r:Rat)*MH hs L n*MH hs L n)+114*eps*(361000*(r:Rat)*MH hs L n)*MH hs L n)+1001/1000*(361000*(r:Rat)*MH hs L n*MH hs L n))=240*361000*(eps*((r:Rat)*(MH hs L n*MH hs L n)))+1001/500*361000*((r:Rat)*(MH hs L n*MH hs L n)):=by grind
   rw[q2,show(r:Rat)*(722725*(MH hs L n*MH hs L n))=722725*((r:Rat)*(MH hs L n*MH hs L n)) by grind];clear dY k1 k2 k3 k4 nY dZ n1 n2;grind
  ·grind
end
theorem aUe:IsZ 0 0 Z9:=⟨by show Is _ (0:Rat);simpa using hJ,by show Is _ (0:Rat);simpa using hJ⟩
theorem uM(Y:Cp):Y-Z9=Y:=E9 (by show Y.re-0=Y.re;grind) (by show Y.im-0=Y.im;grind)
theorem bT3(R:Type)(k:KNN R):dV R 0 0 0 0 k=k 0 0:=by kernel_rfl
end Go.Vx
namespace Go.Proofs.YtaogignikkjkjaaGreat
end Go.Proofs.YtaogignikkjkjaaGreat
namespace Go.Vx
open Go.Vm Go.Proofs Ieee
theorem bFm{GM:Prop}{c1 c2 r:Nat}{cx cy:Int}{R:Rat}{n:Nat}{dK zK dM zM:Nat->Nat×Nat}{DK ZK DM ZM z w zm wm:Nat->Cp}(P:bQ1 GM c1 c2 r cx cy R n dK zK dM zM DK ZK DM ZM z w zm wm):bQ1 True c1 c2 r cx cy R n dK zK dK zK DK ZK DK ZK z w z w where
 K:=P.K
 M:=P.K
 eK:=P.eK
 eM:=P.eK
 pz:=P.pz
 pw:=P.pw
 zw:=P.zw
 mz:=λk hk=>P.pz.at_ k hk
 mw:=λk hk=>P.pw.at_ k hk
 zwm:=P.zw
 near:=λk hk=>by
  have e:z k-z k=Z9:=by
   refine E9 ?_ ?_;· rw[S9,Cp.zero_re];grind
   ·rw[T9,Cp.zero_im];grind
  rw[e];exact jM.mono (by have:=bI;grind)
 goK:=P.goK
 goM:=trivial
theorem bK1{cx cy r:Int}{S:jO (fI cx) (fI cy) (fI r)}{hs:List Th}{n:Nat}(g:Vm.Good S hs (n:Int)):
  ∃dK zK DK ZK z w c C s κ v vM V wM L,Dat True S hs n dK zK dK zK DK ZK DK ZK z w z w c C s κ v vM V wM L:=by
 have bc:=aCo g.c;obtain⟨R1,R2⟩:=bI3 g;have n1:=g.n1;have n2:=g.n2;have gr1:=g.r1;have gr2:=g.r2;obtain⟨dK,zK,dM,zM,DK,ZK,DM,ZM,z,w,zm,wm,P0⟩:=bAl (n:=n) (by omega) (by omega) (c1:=fI cx) (c2:=fI cy) (r:=fI r) (R:=(r:Rat)) ⟨jF (by omega),jF (by omega)⟩ bc.1 bc.2 (jF (by omega)) R1 (by grind);have P:=bFm P0;obtain⟨f,hf⟩:=bFj (β:=(Nat×Nat)×Cp×Sd×Cp×(Nat->Nat×Nat)×(Nat->Nat×Nat)×(Nat->Cp)×(Nat->Nat)×(Nat->Rat)) (l:=hs)
  (p:=λh x=>Dsc (r:Rat) (gmm cx cy r h) h (gV S h) x.1 x.2.1 x.2.2.1 x.2.2.2.1/\bJs (aQf h) n zK zK z w x.2.2.1 x.2.2.2.1 x.2.2.2.2.1 x.2.2.2.2.2.1 x.2.2.2.2.2.2.1 x.2.2.2.2.2.2.2.1 x.2.2.2.2.2.2.2.2) (λh hm=>by
  obtain⟨c,C,s,κ,v,vM,V,wM,L,h1,h2⟩:=bR3 g (by omega) P hm;exact⟨(c,C,s,κ,v,vM,V,wM,L),h1,h2⟩)
 exact⟨dK,zK,DK,ZK,z,w,λh=>(f h).1,λh=>(f h).2.1,λh=>(f h).2.2.1,λh=>(f h).2.2.2.1,λh=>(f h).2.2.2.2.1,λh=>(f h).2.2.2.2.2.1,λh=>(f h).2.2.2.2.2.2.1,λh=>(f h).2.2.2.2.2.2.2.1,λh=>(f h).2.2.2.2.2.2.2.2,
  ⟨g,P,λh hm=>(hf h hm).1,λh hm=>(hf h hm).2⟩⟩
theorem cBe{k:Nat}(hk:k<100000):fbF .mul 4611686018427387904 (fI (k:Int))=some (fI (2*(k:Int))):=by
 have ik:=jF (n:=(k:Int)) (by omega);have b:((k:Rat))<=100000:=by exact_mod_cast (show k<=100000 by omega)
 have b0:(0:Rat)<=(k:Rat):=by exact_mod_cast Nat.zero_le k
 rw[Rat.intCast_natCast]at ik;obtain⟨p,P,e,i,q⟩:=kH aEk ik (kL (aA.2 ⟨by grind,by grind⟩));have e1:(2:Rat)*(k:Rat)=((2*(k:Int):Int):Rat):=by push_cast;rfl
 rw[e1]at q;have eP:=aBv (n:=2*(k:Int)) (by omega) q;subst eP;rw[e];congr 1;by_cases h:k=0
 ·subst h;have:fbF .mul 4611686018427387904 (fI ((0:Nat):Int))=some (fI (2*((0:Nat):Int))):=by decide +kernel
  rw[this]at e;exact(Option.some.inj e).symm
 ·refine uA i (jF (by omega)) ?_;rw[<-e1,fZ (by grind)];have:(1:Rat)<=(k:Rat):=by exact_mod_cast (show 1<=k by omega)
  grind
theorem aYt{r c1 c2 n k:Nat}(hk:k<100000)(R:Type)(K:Nat->Nat->Nat->Nat->Option R):aWc aG vX jJ r c1 c2 n k K=bH2 r c1 c2 n k K:=by unfold aWc bH2;rw[aI,qH (by omega) (by omega),cB,cB];have e:=cBe hk;unfold fI at e;rw[aK e];rfl
section
variable{cx cy r:Int}{S:jO (fI cx) (fI cy) (fI r)}
theorem aS0(hr:Rin cx cy r){X:El}{L:Rat}(iL:Is (S.lw X) L)(h:L<=99/100*(r:Rat)\/101/100*(r:Rat)<=L):oC S X=false:=by
 obtain⟨r1,r2⟩:=bI2 hr;have et:=bR;have T1:(r:Rat)*(2:Rat)^(-20:Int)=(r:Rat)*(1/1048576):=by rw[aPt]
 obtain⟨t,T,e1,i1,q1⟩:=kH (bNo hr) aOv (kL (by rw[T1];exact aA.2 ⟨by grind,by grind⟩));have eT:T=r*(2:Rat)^(-20:Int):=q1.rep r (-20) (by have:=hr.r1;have:=hr.r2;omega) (by decide) rfl;rw[T1]at eT;have ht:=S.ht;rw[e1]at ht;have ht:=Option.some.inj ht;obtain⟨p,P,e2,i2,q2⟩:=mJ (bNo hr) i1 (kL (by rw[eT];exact aA.2 ⟨by grind,by grind⟩));obtain⟨m,M,e3,i3,q3⟩:=qD (bNo hr) i1 (kL (by rw[eT];exact aA.2 ⟨by grind,by grind⟩));have hp:=S.hp;have hmm:=S.hm;rw[<-ht,e2]at hp;rw[<-ht,e3]at hmm;have hp:=Option.some.inj hp;have hmm:=Option.some.inj hmm;have d2:=vV q2 (B:=2*r) (by rw[eT];exact aA.2 ⟨by grind,by grind⟩) (cR mZ (by grind));have d3:=vV q3 (B:=2*r) (by rw[eT];exact aA.2 ⟨by grind,by grind⟩) (cR mZ (by grind));have a2:=aA.1 d2;have a3:=aA.1 d3;have er':=cG et (show 0<=(r:Rat) by grind);unfold oC;rw[<-hp,<-hmm,sD iL i2,tB iL i3];rcases h with h|h;· rw[E7 (show ¬M<=L by grind),Bool.and_false]
 ·rw[E7 (show ¬L<=P by grind),Bool.and_false,Bool.false_and]
end
theorem aM8{a b:Int}(h1:a.natAbs<=1000)(h2:b.natAbs<=1000):smI a b=true:=by unfold smI;simp only[Bool.and_eq_true,decide_eq_true_eq];omega
theorem aQp(h:Six):mB h=⟨1,0,0,Wn h.s,Wn h.t,0⟩\/mB h=⟨2,Wn h.x,Wn h.y,Wn h.s,Wn h.t,0⟩\/(∃m:Nat,m<8/\mB h=⟨3,Wn h.x,Wn h.y,Wn h.s,Wn h.t,((1+m:Nat):Int)⟩)\/(∃m:Nat,m<4/\mB h=⟨4,Wn h.x,Wn h.y,Wn h.s,Wn h.t,((1+m:Nat):Int)⟩):=by
 unfold mB;cases xZ h.kind==1 with
 |true=>exact .inr (.inl rfl)
 |false=>
  cases xZ h.kind==2 with
  |true=>exact .inr (.inr (.inl ⟨_,Nat.mod_lt _ (by decide),rfl⟩))
  |false=>
   cases xZ h.kind==3 with
   |true=>exact .inr (.inr (.inr ⟨_,Nat.mod_lt _ (by decide),rfl⟩))
   |false=>exact .inl rfl
theorem aQq(h:Six):qW (mB h):=by
 have hx:=yZ h.x;have hy:=yZ h.y;have hs:=yZ h.s;have ht:=yZ h.t;have sm:∀{k p:Int}{a b c d:Int},a.natAbs<=1000->b.natAbs<=1000->c.natAbs<=1000->d.natAbs<=1000->p.natAbs<=1000->qW ⟨k,a,b,c,d,p⟩:=λha hb hc hd hp=>⟨by unfold Th.small;rw[aM8 ha hb,aM8 hc hd];rfl,hp⟩
 rcases aQp h with e|e|⟨m,hm,e⟩|⟨m,hm,e⟩<;>rw[e]
 ·exact sm (by decide) (by decide) hs ht (by decide)
 ·exact sm hx hy hs ht (by decide)
 ·exact sm hx hy hs ht (by omega)
 ·exact sm hx hy hs ht (by omega)
theorem bRl:∀m:Nat,m<8->∀b:Bool,tT 3 b (fI ((1+m:Nat):Int))=0:=by decide +kernel
theorem bRm:∀m:Nat,m<4->∀b:Bool,tT 4 b (fI ((1+m:Nat):Int))=0:=by decide +kernel
theorem bVw(h:Six):erE (mB h).el=0:=by
 have f:=aQq h;have b:=f.xy;have hp:=f.pow;have h1:=zO f Int some;have h2:=aC5 (kind:=(mB h).kind) f.at f.st (by omega) (by omega) (by omega) (by omega) (jF (n:=(mB h).p) (by omega)).1 (some:Int->Option Int);have e:(some (erE (mB h).el):Option Int)=some (tT (mB h).kind (decide ((mB h).x=0/\(mB h).y=0)) (fI (mB h).p)):=h1.symm.trans h2;have e:=Option.some.inj e;rw[e];rcases aQp h with e|e|⟨m,hm,e⟩|⟨m,hm,e⟩<;>rw[e]
 ·show tT 1 (decide ((0:Int)=0/\(0:Int)=0)) (fI 0)=0;decide +kernel
 ·show tT 2 (decide (Wn h.x=0/\Wn h.y=0)) (fI 0)=0;generalize decide (Wn h.x=0/\Wn h.y=0)=b;have:∀b:Bool,tT 2 b (fI 0)=0:=by decide +kernel
  exact this b
 ·exact bRl m hm _
 ·exact bRm m hm _
theorem bSy{H L N R:Rat}{e:Rat}(H0:0<=H)(L0:0<=L)(R1:1<=R)(hH:(H*H-N).abs<=N/1000000)(e0:0<e)(e1:e<=1/1000000000000000)(hL:(L*L-N).abs<=4*e*N)(N0:0<=N):
  (∀c d:Rat,0<=c->c*c*(100001/100000)<=d*d->0<=d->H<=c*R->L<=d*R)/\(∀c d:Rat,0<=c->d*d*(100001/100000)<=c*c->0<=d->c*R<=H->d*R<=L):=by
 have a:=aA.1 hH;have b:=aA.1 hL;have en:=cG e1 N0;constructor
 ·intro c d c0 hcd d0 h;refine nX (bU d0 (by grind)) ?_;have s:=aC h h H0 (bU c0 (by grind));have RR:=bU (show 0<=R by grind) (show 0<=R by grind);have t:=cG hcd RR;have u:L*L<=100001/100000*(H*H):=by grind
  grind
 ·intro c d c0 hcd d0 h;refine nX L0 ?_;have s:=aC h h (bU c0 (by grind)) H0;have RR:=bU (show 0<=R by grind) (show 0<=R by grind);have t:=cG hcd RR;have u:H*H<=100001/100000*(L*L):=by grind
  grind
section
variable{cx cy r:Int}{S:jO (fI cx) (fI cy) (fI r)}(hr:Rin cx cy r)(see:∀h:Th,qW h->Go.Vm.aC2 (fI cx) (fI cy) S.lw h.el)
include hr see
theorem bZl{h:Th}(f:qW h):∃H L,Is (aR6 (h.x-cx) (h.y-cy)) H/\0<=H/\H<=100000/\Is (S.lw h.el) L/\(∀c d:Rat,0<=c->c*c*(100001/100000)<=d*d->0<=d->H<=c*(r:Rat)->L<=d*(r:Rat))/\(∀c d:Rat,0<=c->d*d*(100001/100000)<=c*c->0<=d->c*(r:Rat)<=H->d*(r:Rat)<=L):=by
 have b:=f.xy;have h1:=hr.x;have h2:=hr.y;obtain⟨r1,r2⟩:=bI2 hr;obtain⟨L,iL,L0,hL⟩:=lwS (aM8 h1 h2) see f;obtain⟨H,iH,H0,hH,_⟩:=aYz (x:=h.x-cx) (y:=h.y-cy) (by omega) (by omega);have N0:(0:Rat)<=(((h.x-cx)*(h.x-cx)+(h.y-cy)*(h.y-cy):Int):Rat):=by push_cast;have:=aT ((h.x:Rat)-cx);have:=aT ((h.y:Rat)-cy);grind
 have n1:(((h.x-cx)*(h.x-cx)+(h.y-cy)*(h.y-cy):Int):Rat)<=8000000:=by
  have a1:(h.x-cx)*(h.x-cx)<=2000*2000:=by rw[<-Int.natAbs_mul_self];exact_mod_cast Nat.mul_le_mul (show(h.x-cx).natAbs<=2000 by omega) (show(h.x-cx).natAbs<=2000 by omega)
  have a2:(h.y-cy)*(h.y-cy)<=2000*2000:=by rw[<-Int.natAbs_mul_self];exact_mod_cast Nat.mul_le_mul (show(h.y-cy).natAbs<=2000 by omega) (show(h.y-cy).natAbs<=2000 by omega)
  have:(((h.x-cx)*(h.x-cx)+(h.y-cy)*(h.y-cy):Int):Rat)<=((8000000:Int):Rat):=Rat.intCast_le_intCast.2 (by omega);exact this
 obtain⟨q1,q2⟩:=bSy (R:=(r:Rat)) H0 L0 r1 hH bI bR hL N0;refine⟨H,L,iH,H0,nX (by decide) ?_,iL,q1,q2⟩;have:=aA.1 hH;grind
theorem bB6{h:Six}(hb:aG2 cx cy r (mB h)=false):aNl S (mB h).el=true/\oC S (mB h).el=false:=by
 obtain⟨r1,r2⟩:=bI2 hr;obtain⟨H,L,iH,H0,H1,iL,lo,hi⟩:=bZl hr see (aQq h);obtain⟨_,v4,i4,b4⟩:=bBz hr;obtain⟨_,v2,i2,b2⟩:=aT6 hr;obtain⟨_,v6,i6,b6⟩:=bJi hr;obtain⟨_,vo,io,bo⟩:=aZ0 hr iH H0 H1;have b4:=aA.1 b4;have b2:=aA.1 b2;have b6:=aA.1 b6;have bo:=aA.1 bo;have pole:((mB h).kind==2||(mB h).kind==3)=true->aNl S (mB h).el=true/\oC S (mB h).el=false:=λhk=>by
  unfold aG2 at hb;rw[hk,Bool.true_and,aR1 iH i4,zZ iH i2]at hb;have hb:=(Bool.or_eq_false_iff.1 hb).1;have hb:¬(v4<H/\H<v2):=by intro hh;rw[D7 hh.1,D7 hh.2]at hb;cases hb
  rcases(Rat.le_total:H<=(r:Rat)\/(r:Rat)<=H) with hl|hl;· have:L<=1/2*(r:Rat):=lo (49901/100000) (1/2) (by decide +kernel) (by decide +kernel) (by decide +kernel) (by refine Rat.not_lt.1 λhh=>hb ⟨by grind,by grind⟩);refine⟨?_,aS0 hr iL (.inl (by grind))⟩;unfold aNl;rw[sD iL (aJa hr.r1 hr.r2).2,D7 (show L<=(r:Rat)/2 by grind),Bool.true_or,Bool.or_true,Bool.or_true]
  ·have:2*(r:Rat)<=L:=hi (20009/10000) 2 (by decide +kernel) (by decide +kernel) (by decide) (by refine Rat.not_lt.1 λhh=>hb ⟨by grind,by grind⟩);refine⟨?_,aS0 hr iL (.inr (by grind))⟩;unfold aNl;rw[tB iL (aKt hr.r1 hr.r2).2,D7 this,Bool.or_true,Bool.or_true,Bool.or_true]
 rcases aQp h with e|e|⟨m,hm,e⟩|⟨m,hm,e⟩;· rw[e];exact⟨rfl,rfl⟩
 ·exact pole (by rw[e];rfl)
 ·exact pole (by rw[e];rfl)
 ·have k4:((mB h).kind==4)=true:=by rw[e];rfl
  refine⟨by rw[e];rfl,?_⟩;unfold aG2 at hb;rw[k4,Bool.true_and,zZ io i6]at hb;have hb:=(Bool.or_eq_false_iff.1 hb).2;have hb:=of_decide_eq_false hb;rcases(Rat.le_total:H<=(r:Rat)\/(r:Rat)<=H) with hl|hl
  ·have ea:(H-r).abs=r-H:=by rw[Rat.abs_of_nonpos (by grind)];grind
   rw[ea]at bo;exact aS0 hr iL (.inl (lo (98600/100000) (99/100) (by decide +kernel) (by decide +kernel) (by decide +kernel) (by grind)))
  ·have ea:(H-r).abs=H-r:=fZ (by grind);rw[ea]at bo;exact aS0 hr iL (.inr (hi (101400/100000) (101/100) (by decide +kernel) (by decide +kernel) (by decide +kernel) (by grind)))
end
theorem bL1{xs:List Six}{cx cy r:Int}{n:Nat}(hr:Rin cx cy r)(n1:128<=n)(n2:n<=512)(h1:1<=xs.length)(h6:xs.length<=6)(hb:∀h∈xs,aG2 cx cy r (mB h)=false):∃S:jO (fI cx) (fI cy) (fI r),Vm.Good S (xs.map mB) (n:Int):=by
 have hc:=aM8 hr.x hr.y;have hr2:=hr.r2;obtain⟨S,see⟩:=aTx hc hr.r1 (show r<=40000 by omega);have hF:=aOm hc hr.r1 (show r<=40000 by omega);have all:∀{p:Th->Prop},(∀h∈xs,p (mB h))->∀h∈xs.map mB,p h:=λhp h hm=>by obtain⟨x,hx,rfl⟩:=List.mem_map.1 hm;exact hp x hx
 have hf:∀h∈xs.map mB,qW h:=all λh _=>aQq h
 have hck:∀h∈xs.map mB,erE h.el=0:=all λh _=>bVw h
 have hoff:∀h∈xs.map mB,oC S h.el=false:=all λh hm=>(bB6 hr see (hb h hm)).2
 have hw:∀h∈xs.map mB,aNl S h.el=true:=all λh hm=>(bB6 hr see (hb h hm)).1
 have hl:(xs.map mB).length=xs.length:=by simp
 refine⟨S,⟨by omega,by omega,hc,hr.r1,hr.r2,by omega,by omega,hf,see,hck,hoff,hw,λb=>?_⟩⟩;have hcl:=bDj (sz:=4) (c:=(xs.map mB).length) S (nN (els (xs.map mB))) hf (by omega) (cL _).2.1 hF hck (λh hm=>see h (hf h hm)) b;have hany:(els (xs.map mB)).any (oC S)=false:=by
  refine List.any_eq_false.2 λX hX=>?_
  unfold els at hX;obtain⟨h,hm,rfl⟩:=List.mem_map.1 hX;simpa using hoff h hm
 rw[hany]at hcl;exact hcl
open Go.Vm
def upL(L:List Fc):List Fc:=.lin Z9 (1/1000)::L
def Sd.pairM(s t:Sd):Cp:=match s,t with
 |.inn b qb q,.out L=>Fv b (upL L) q
 |.out L,.inn b qb q=>Fv b (upL L) q
 |.inn _ _ q,.inn _ _ q'=>bif Nat.beq (q+q') 2 then O9 else Z9
 |.out _,.out _=>Z9
theorem bV3{L:List Fc}(h:OkL lD L):OkL lD (upL L):=λf hf=>by
 rcases List.mem_cons.1 hf with rfl|hf;· exact⟨0,jM,by have:=uJ;grind⟩
 ·exact h f hf
theorem cBg(L:List Fc):wL (upL L)=1001/1000*wL L:=by show(1+1/1000)*wL L=_;rw[show(1:Rat)+1/1000=1001/1000 by decide +kernel]
def EM:Rat:=1001/1000*EE
theorem bQv:0<=EM:=by unfold EM EE;decide +kernel
theorem aRz:∀{L M:List Fc},bQi L=true->bQi M=true->bQi (L++M)=true
 |[],_,_,h=>h
 |.geo _ _::L,M,g,h=>aRz (L:=L) g h
 |.lin _ _::_,_,g,_=>by cases g
section
variable{n:Nat}{z w:Nat->Cp}(hz:Pts lD uL n z)(hw:Pts lD uL n w)(hzw:∀k,k<n->z k*w k=O9)(hn:0<n)
include hz hw hzw hn
theorem bAo{b:Cp}{qb:Rat}{q:Nat}{L:List Fc}(hb:(Fc.geo b qb).Ok lD)(h9:q<=9)(hL:OkL lD L)(hc:rM L<=18)(hk:wG L<=(9/4)^9):
  Nm (csm (λk=>z k*(z k*(inV b qb q (w k)*cC L (z k)))) n-C9 (n:Rat)*Fv b (upL L) q) ((n:Rat)*(wL (jU b qb q)*wL L*EM)):=by
 have h:=aJ0 hz hw hzw hn hb (E:=EE) (λq a b=>bYd hz hw hzw hn a b) (upL L) (bV3 hL) (λM hM=>by
  rcases List.suffix_cons_iff.1 hM with e|hM;· subst e;refine aGj (by omega) (by show 1+(1+rM L)<=53;omega) ?_;show 3/2*wG L<=_;grind
  ·exact bJr hz hw hzw hn hc hk hM) q h9
 rw[cBg]at h;have e:csm (λk=>z k*(z k*(inV b qb q (w k)*cC L (z k)))) n=csm (λk=>z k*(inV b qb q (w k)*cC (upL L) (z k))) n:=cA λk _=>by show _=z k*(inV b qb q (w k)*((z k-Z9)*cC L (z k)));rw[show z k-Z9=z k from E9 (by simp only[S9,Cp.zero_re];grind) (by simp only[T9,Cp.zero_im];grind),Cp.mul_left_comm (inV b qb q (w k))]
 rw[e];refine h.mono ?_;unfold EM;rw[show wL (jU b qb q)*(1001/1000*wL L)*EE=wL (jU b qb q)*wL L*(1001/1000*EE) by grind];exact R9
theorem bAe{s t:Sd}(hs:s.Ok lD)(ht:t.Ok lD):Nm (csm (λk=>z k*(z k*(s.at_ (z k) (w k)*t.at_ (z k) (w k)))) n-C9 (n:Rat)*s.pairM t) ((n:Rat)*(s.W*t.W*EM)):=by
 have n0:(0:Rat)<=(n:Rat):=by exact_mod_cast Nat.zero_le n
 have sub0:∀x:Cp,x-C9 (n:Rat)*Z9=x:=λx=>by rw[Cp.mul_zero];exact E9 (by simp only[S9,Cp.zero_re];grind) (by simp only[T9,Cp.zero_im];grind)
 have up:∀{A B:Rat},0<=A->B<=EE->(n:Rat)*(A*B)<=(n:Rat)*(A*EM):=λhA h=>bCl hz hw hzw hn n0 hA h |> λx=>cR x (dI (dI (by unfold EM;have:=aGv;grind) hA) n0)
 cases s with
 |inn b qb q=>
  obtain⟨s1,s2,s3⟩:=hs;cases t with
  |inn b' qb' q'=>
   obtain⟨t1,t2,t3⟩:=ht;have hL:=aJs (kN s1 q) (kN t1 q');have ws:=(gH hw.one (kN s1 q) (hw.at_ 0 hn)).2;have wt:=(gH hw.one (kN t1 q') (hw.at_ 0 hn)).2;have W0:0<=wL (jU b qb q)*wL (jU b' qb' q'):=bU (cR (by decide) ws) (cR (by decide) wt);have kk:wG (jU b qb q++jU b' qb' q')<=(9/4)^18:=by rw[xE,tE,tE,<-pow_add];exact eU (by decide +kernel) (by omega)
   have e:csm (λk=>z k*(z k*(inV b qb q (w k)*inV b' qb' q' (w k)))) n=csm (λk=>(w k).pw (q+q'-2)*cC (jU b qb q++jU b' qb' q') (w k)) n:=cA λk hk=>by rw[bEe hz hw hzw hn s2 hk];have h2:=bEe hz hw hzw hn (b:=b') (qb:=qb') t2 hk O9;rw[Cp.mul_one,Cp.mul_one]at h2;rw[show z k*((w k).pw (q-1)*(cC (jU b qb q) (w k)*inV b' qb' q' (w k)))=(w k).pw (q-1)*(cC (jU b qb q) (w k)*(z k*inV b' qb' q' (w k))) by simp only[M9,Cp.mul_left_comm],h2,wN,show q+q'-2=(q-1)+(q'-1) by omega,Cp.pw_add];simp only[M9,Cp.mul_left_comm]
   show Nm (csm (λk=>z k*(z k*(inV b qb q (w k)*inV b' qb' q' (w k)))) n-C9 (n:Rat)*(bif Nat.beq (q+q') 2 then O9 else Z9)) ((n:Rat)*(wL (jU b qb q)*wL (jU b' qb' q')*EM));rw[e];cases hq:Nat.beq (q+q') 2 with
   |true=>
    have hq:=gO hq;have q1:q=1:=by omega
    have q2:q'=1:=by omega
    subst q1 q2;have h:=aJ2 hw hn _ hL (aRz (aAn b qb 1) (aAn b' qb' 1));rw[T7,Cp.mul_one];have e2:csm (λk=>(w k).pw (1+1-2)*cC (jU b qb 1++jU b' qb' 1) (w k)) n=csm (λk=>cC (jU b qb 1++jU b' qb' 1) (w k)) n:=cA λk _=>Cp.one_mul _
    rw[e2];refine h.mono ?_;rw[aH0];exact up W0 (aGj (by omega) (by rw[uT,pO,pO];omega) kk)
   |false=>have hq:=Nat.ne_of_beq_eq_false hq;rw[F7,sub0];have h:=tD hw hn _ hL (q+q'-2) (by omega);refine h.mono ?_;rw[aH0];exact up W0 (aGj (by omega) (by rw[uT,pO,pO];omega) kk)
  |out L=>obtain⟨t1,t2,t3⟩:=ht;exact bAo hz hw hzw hn s1 s3 t1 t2 t3
 |out L=>
  obtain⟨s1,s2,s3⟩:=hs;cases t with
  |inn b' qb' q'=>
   obtain⟨t1,t2,t3⟩:=ht;have h:=bAo hz hw hzw hn t1 t3 s1 s2 s3;have e:csm (λk=>z k*(z k*(cC L (z k)*inV b' qb' q' (w k)))) n=csm (λk=>z k*(z k*(inV b' qb' q' (w k)*cC L (z k)))) n:=cA λk hk=>by rw[Cp.mul_comm (cC L (z k))]
   show Nm (csm (λk=>z k*(z k*(cC L (z k)*inV b' qb' q' (w k)))) n-C9 (n:Rat)*Fv b' (upL L) q') ((n:Rat)*(wL L*wL (jU b' qb' q')*EM));rw[e,Rat.mul_comm (wL L)];exact h
  |out M=>
   obtain⟨t1,t2,t3⟩:=ht;show Nm (_-C9 (n:Rat)*Z9) _;rw[sub0];have h:=tD hz hn _ (aJs s1 t1) 2 (by omega);have e:csm (λk=>z k*(z k*(cC L (z k)*cC M (z k)))) n=csm (λk=>(z k).pw 2*cC (L++M) (z k)) n:=cA λk hk=>by rw[wN];show _=O9*z k*z k*_;rw[Cp.one_mul,M9]
   show Nm (csm (λk=>z k*(z k*(cC L (z k)*cC M (z k)))) n) _;rw[e];refine h.mono ?_;rw[aH0];have ws:=(gH hz.one s1 (hz.at_ 0 hn)).2;have wt:=(gH hz.one t1 (hz.at_ 0 hn)).2;refine up (bU (cR (by decide) ws) (cR (by decide) wt)) (aGj (by omega) ?_ ?_);· rw[uT];omega
   ·rw[xE];refine cR (aC s3 t3 (cR (by decide) (uY M)) (by decide +kernel)) ?_;rw[<-pow_add];exact R9
end
theorem bHz{xs:List El}{z1 z2:Nat}{v:Nat->Nat×Nat}{w g:Nat->Nat}(hv:∀i,i<xs.length->∀(R:Type)(k:vT R),spdK R (rG xs i).kind (rG xs i).a1 (rG xs i).a2 (rG xs i).s1 (rG xs i).s2 (rG xs i).p z1 z2 k=k (v i).1 (v i).2 0)(hl:∀i,i<xs.length->∀(R:Type)(k:KNO R),cQ R (v i).1 (v i).2 k=k (w i))(hs:∀i,i<xs.length->fbF .add (g i) (w i)=some (g (i+1)))(R:Type)(er:Option R)(K:KNO R):
  ∀(m i:Nat),i+m=xs.length->ftS spdK cQ (rG xs) z1 z2 er K m i (g i)=K (g xs.length)
 |0,i,h=>by
  have:i=xs.length:=by omega
  subst this;rfl
 |m+1,i,h=>by show spdK R (rG xs i).kind (rG xs i).a1 (rG xs i).a2 (rG xs i).s1 (rG xs i).s2 (rG xs i).p z1 z2 (λx y e=>bif e != 0 then er else cQ R x y λl=>aM (fbF .add (g i) l) λs=>ftS spdK cQ (rG xs) z1 z2 er K m (i+1) s)=_;rw[hv i (by omega)];show cQ R (v i).1 (v i).2 (λl=>aM (fbF .add (g i) l) λs=>ftS spdK cQ (rG xs) z1 z2 er K m (i+1) s)=_;rw[hl i (by omega),aK (hs i (by omega))];exact bHz hv hl hs R er K m (i+1) (by omega)
section
variable{cx cy r:Int}{S:jO (fI cx) (fI cy) (fI r)}{hs:List Th}{n:Nat}{dK zK:Nat->Nat×Nat}{DK ZK z w:Nat->Cp}{c:Th->Nat×Nat}{C:Th->Cp}{s:Th->Sd}{κ:Th->Cp}{v vM:Th->Nat->Nat×Nat}{V:Th->Nat->Cp}{wM:Th->Nat->Nat}{L:Th->Nat->Rat}(T:Dat True S hs n dK zK dK zK DK ZK DK ZK z w z w c C s κ v vM V wM L)
include T
theorem aDm{k:Nat}(hk:k<n):0<=xH hs L k/\xH hs L k<=1200000000000000000/\aV7 (xH hs L k):=by
 have f:=λi (hi:i<hs.length)=>T.E _ (oJ hi)
 refine⟨eZ λi hi=>(f i hi).L0 k hk,?_,wD λi hi=>⟨(f i hi).L0 k hk,(f i hi).fL k hk⟩⟩;have:=pP (f:=λi=>L (Hn hs i) k) (g:=λ_=>200000000000000000) λi hi=>(f i hi).Lb k hk
 rw[kC]at this;have n6:(hs.length:Rat)<=6:=by exact_mod_cast T.good.len6
 have:=cG n6 (show(0:Rat)<=200000000000000000 by decide);unfold xH;grind
theorem aYs{k:Nat}(hk:k<n)(R:Type)(K:Nat->Nat->Nat->Nat->Option R):aWc aG vX jJ (fI r) (fI cx) (fI cy) n k K=K (dK k).1 (dK k).2 (zK k).1 (zK k).2:=by have:=(bM1 T).2;rw[aYt (by omega)];exact bH3 T hk R K
theorem bSl:∃(p q u:Nat->Nat)(B:Rat),Ftu (els hs) (fI cx) (fI cy) (fI r) n dK zK p q u/\Is (u n) B/\(n:Rat)*UH hs L n<=10344/10000*B/\B<=3000000000000000000000000000000000000000/\0<=B/\(B=0\/(2:Rat)^(-390:Int)<=B):=by
 have et:=bR;have ep:=bI;obtain⟨n1,n2⟩:=bM1 T;have nr:=nR T;have U0:=aA2 T;have len6:=T.good.len6;have el:=jZ hs;obtain⟨f,hf⟩:=pick (α:=Nat×Nat×Rat×Rat) (n:=n) (p:=λk x=>(∀(R:Type)(er:Option R)(K:KNO R),ftS spdK cQ (rG (els hs)) (zK k).1 (zK k).2 er K (els hs).length 0 0=K x.1)/\Is x.1 x.2.2.1/\fbF .mul x.1 x.1=some x.2.1/\Is x.2.1 x.2.2.2/\
   (x.2.2.1-xH hs L k).abs<=6*eps*xH hs L k/\(x.2.2.2-x.2.2.1*x.2.2.1).abs<=eps/4*(x.2.2.1*x.2.2.1)) (λk hk=>by
  have ff:=λi (hi:i<hs.length)=>T.E _ (oJ hi)
  have xf:=aDm T hk;obtain⟨g,σ,g0,g1,iσ,dσ⟩:=bMn (N:=hs.length) (w:=λi=>wM (Hn hs i) k) (L:=λi=>L (Hn hs i) k) len6 (λi hi=>(ff i hi).iL k hk) (λi hi=>(ff i hi).L0 k hk) (λi hi=>(ff i hi).fL k hk) (by show 2*xH hs L k<=_;rw[bZ];grind);have dσ':(σ-xH hs L k).abs<=6*eps*xH hs L k:=dσ;have aσ:=aA.1 dσ';have ex:=cG et xf.1;have σ0:0<=σ:=by grind
  have σ1:1/2*xH hs L k<=σ:=by grind
  have σ2:σ<=2*xH hs L k:=by grind
  have sq:=aC (show σ<=2400000000000000000 by grind) (show σ<=2400000000000000000 by grind) σ0 (by decide);have fσ:Fit (σ*σ):=by
   rcases xf.2.2 with h|h
   ·left;have:σ=0:=by grind
    rw[this];grind
   ·right;have a:(2:Rat)^(-181:Int)<=σ:=by have:=fA (-180);rw[show(-180-1:Int)=-181 by decide]at this;grind
    have b:=aC a a (bN (bG _)) σ0;rw[<-bO]at b;exact cR (cY (by decide)) b
  obtain⟨q,θ,eq,iθ,dθ⟩:=wI iσ iσ (B:=σ*σ) (by rw[fZ (bU σ0 σ0)];exact R9) fσ (by rw[bZ];grind);refine⟨(g hs.length,q,σ,θ),λR er K=>?_,iσ,eq,iθ,dσ,dθ⟩;have hm:=bHz (xs:=els hs) (z1:=(zK k).1) (z2:=(zK k).2) (v:=λi=>vM (Hn hs i) k) (w:=λi=>wM (Hn hs i) k) (g:=g) (λi hi R K=>by
    rw[el]at hi;rw[aSz hi];exact(ff i hi).spdM k hk R K) (λi hi R K=>by
    rw[el]at hi;exact(ff i hi).len k hk R K) (λi hi=>by
    rw[el]at hi;exact g1 i hi) R er K (els hs).length 0 (by omega)
  rw[g0]at hm;rw[hm,el])
 have B:=λk (hk:k<n)=>bBo (aDm T hk).1 ep et (hf k hk).2.2.2.2.1 (hf k hk).2.2.2.2.2
 have fit:∀k,k<n->(f k).2.2.2=0\/(2:Rat)^(-380:Int)<=(f k).2.2.2:=λk hk=>by
  have xf:=aDm T hk;have bb:=B k hk;rcases xf.2.2 with h|h;· left;rw[h]at bb;grind
  ·right;have e:=aC h h (bN (bG _)) xf.1;rw[<-bO,show(-180+-180:Int)=-360 by decide]at e;have h2:=fA (-360);have q:=cY (show(-380:Int)<=-360-1 by decide);have xx:=bU xf.1 xf.1;have ex:=cG et xx;grind
 have most:∀k,k<n->(f k).2.2.2<=3000000000000000000000000000000000000:=λk hk=>by have xf:=aDm T hk;have bb:=(B k hk).2.2.1;have:=aC xf.2.1 xf.2.1 xf.1 (by decide);grind
 have tot:=pP (f:=λk=>(f k).2.2.2) (g:=λ_=>3000000000000000000000000000000000000) (n:=n) most;rw[kC]at tot;have R0:=eZ (f:=λk=>(f k).2.2.2) (n:=n) λk hk=>(B k hk).2.2.2
 obtain⟨g,g0,g1,g2⟩:=aNe (q:=λk=>(f k).2.1) (A:=λk=>(f k).2.2.2) (n:=n) (B:=rsm (λk=>(f k).2.2.2) n) (by omega) (λk hk=>(hf k hk).2.2.2.1) (λk hk=>(B k hk).2.2.2) R9 (aIz (wD λk hk=>⟨(B k hk).2.2.2,fit k hk⟩)) (by rw[bZ];grind);obtain⟨Bv,iS,dS⟩:=g2 n (Nat.le_refl n);have u1:(1-20*eps)*((n:Rat)*UH hs L n)<=1034289/1000000*rsm (λk=>(f k).2.2.2) n:=by
  rw[<-aK2 T,<-jD,<-jD];exact pP λk hk=>by have bb:=(B k hk).2.1;rw[cGn];grind
 refine⟨λk=>(f k).1,λk=>(f k).2.1,g,Bv,⟨λk hk R K=>aYs T hk R K,λk hk R er K=>(hf k hk).1 R er K,g0,λk hk=>(hf k hk).2.2.1,λk hk=>g1 k hk⟩,iS,?_,?_,?_⟩
 ·have nU:=bU (show 0<=(n:Rat) by grind) U0.1;generalize rsm (λk=>(f k).2.2.2) n=Y at *
  have eY:=bU (bN ep) R0;have neY:=cG nr.2 eY;have etY:=cG et R0;have enU:=cG et nU;have d:=aA.1 dS;clear hf B fit most tot dS g1 g2 iS;grind
 ·generalize rsm (λk=>(f k).2.2.2) n=Y at *
  have eY:=bU (bN ep) R0;have neY:=cG nr.2 eY;have etY:=cG et R0;have d:=aA.1 dS;clear hf B fit most dS g1 g2 iS;grind
 ·have fs:rsm (λk=>(f k).2.2.2) n=0\/(2:Rat)^(-380:Int)<=rsm (λk=>(f k).2.2.2) n:=wD λk hk=>⟨(B k hk).2.2.2,fit k hk⟩
  generalize rsm (λk=>(f k).2.2.2) n=Y at *
  have eY:=bU (bN ep) R0;have neY:=cG nr.2 eY;have etY:=cG et R0;have d:=aA.1 dS;have h2:=fA (-380);have q:=cY (show(-390:Int)<=-380-1 by decide);clear hf B fit most dS g1 g2 iS u1 tot;constructor<;>grind
end
end Go.Vx
