/- ForceTwice holds; no conditions. -/
import Derived.Test.YtaogignikkjkjaaGreatVmTG1
set_option maxRecDepth 1000000
set_option maxHeartbeats 1000000
set_option linter.all false
open Go.Vx.Cp renaming zero->Z9
namespace Go.Vx
open Go.Vm Go.Proofs Ieee
theorem bWy{a b:Nat}{A:Cp}(h:IsZ a b A)(n:Nm A 0):IsZ a b Z9:=by rw[<-aE6 n];exact h
theorem bXq:Is 0 (0:Rat):=by simpa using hJ
theorem bZp:Is 9223372036854775808 (0:Rat):=by have:=wJ bXq;rw[show Op.negFloat .f64 0=9223372036854775808 by decide,show -(0:Rat)=0 by grind]at this;exact this
theorem cAf(R:Type)(a1 a2 b1 b2 c1 c2 d1 d2:Nat)(K:KNN R):xJ dV a1 a2 [(b1,b2),(c1,c2),(d1,d2)] K=dV R a1 a2 b1 b2 λa b=>dV R a b c1 c2 λa b=>dV R a b d1 d2 K:=rfl
theorem cAh{d:Nat×Nat}{D:Cp}{R:Rat}(iD:IsZ d.1 d.2 D)(nD:Nm D (1001/1000*R))(R1:1<=R)(R2:R<=1000):∃x:Nat×Nat,IsZ x.1 x.2 Z9/\∀(R:Type)(K:KNN R),(jV R d.1 d.2 λt1 t2=>xJ dV 0 0 [(0,0),(t1,t2),(d.1,d.2)] K)=K x.1 x.2:=by obtain⟨t,iT,hT⟩:=aAx iD;have fR:Fit (1001/1000*R):=.inr (cR (cR (cY (show(-400:Int)<=0 by decide)) (by rw[Rat.zpow_zero];exact Rat.le_refl)) (show 1<=1001/1000*R by grind));have nT:Nm (Cp.I*D) (1001/1000*R):=(bM5.mul nD).mono (by grind);obtain⟨p1,p2,P1,i1,d1,h1⟩:=mY aUe iT jM nT (by rw[bZ];grind) (.inl rfl) fR;rw[Cp.zero_mul,uM]at d1;have i1':=bWy i1 (d1.mono (by grind));obtain⟨p3,p4,P2,i2,d2,h2⟩:=mY i1' iD jM nD (by rw[bZ];grind) (.inl rfl) fR;rw[Cp.zero_mul,uM]at d2;refine⟨(p3,p4),bWy i2 (d2.mono (by grind)),λR K=>?_⟩;rw[hT,cAf,bT3,h1,h2]
theorem bY8{a b u1 u2 N t x1 x2:Nat}(iA:IsZ a b Z9)(et:fbF .quo 4618760256179416344 (floatOfInt .f64 (N:Int))=some t)(iB:IsZ x1 x2 Z9)(hB:∀(R:Type)(K:KNN R),eQ R u1 u2 t K=K x1 x2):
  ∃p q w,IsZ p q Z9/\Is w (0:Rat)/\∀(R:Type)(K:Nat->Nat->Nat->Int->Option R),foZ jV eQ jK aP dG N a b u1 u2 K=K p q w 0:=by
 obtain⟨t1,iT,hT⟩:=aAx iA;rw[Cp.mul_zero]at iT;obtain⟨x1,x2,X,iX,dX,hX⟩:=tG iT aEj jM (.inl (Rat.zero_mul _)) (by rw[Rat.zero_mul,bZ];decide);rw[Cp.mul_zero,uM]at dX;have iX0:=bWy iX (dX.mono (by grind));obtain⟨x3,iC,hC⟩:=aN8 iX0;have ecj:Cp.zero.cj=Z9:=Cp.ext' rfl (by show -(0:Rat)=0;grind);rw[ecj]at iC;obtain⟨wm,Mo,em,iM,qM⟩:=kH aSd iB.1 (by rw[show -(1/2:Rat)*Cp.zero.re=0 from Rat.mul_zero _,fO];exact bG _);have M0:Mo=0:=qC qM (Rat.mul_zero _);rw[M0]at iM;refine⟨_,x3,wm,iC,iM,λR K=>?_⟩;unfold foZ;rw[cB,aK et,hB,hT,hX,hC,aK em,nK iC.1 iC.2,T7,rX iM,T7]
theorem bZ7:Go.Proofs.YtaogignikkjkjaaGreat.LawN:=λs x y rr m hs=>by
 obtain⟨cx,cy,r,N,hr,n1,n2,hN⟩:=aRw x y rr m;have hr1:=hr.r1;have hr2:=hr.r2;have hx:=hr.x;have hy:=hr.y;have hc:=aM8 hr.x hr.y;have hF:=aOm hc hr.r1 (show r<=40000 by omega);obtain⟨S,_⟩:=aTx hc hr.r1 (show r<=40000 by omega);obtain⟨R1,R2⟩:=bI2 hr;obtain⟨dK,zK,dM,zM,DK,ZK,DM,ZM,z,w,zm,wm,P⟩:=bAl (n:=N) n1 n2 (c1:=fI cx) (c2:=fI cy) (r:=fI r) (R:=(r:Rat)) ⟨jF (by omega),jF (by omega)⟩ hr.x hr.y (jF (by omega)) R1 (by grind);have hz0:∀k,k<N->DK k=Cp.of (r:Rat)*z k:=λk _=>by rw[P.eK,aE8 (by grind)]
 have r0:rsm (λ_=>(0:Rat)) N=(N:Rat)*0:=kC 0 N;obtain⟨q,g,a,b,A,hq,g0,g1,g2,hl,iA,τ,_,_,dA⟩:=aFj (n:=N) (u:=λ_=>(0,0)) (d:=dK) (U:=λ_=>Z9) (D:=DK) (z:=z) (ρ:=λ_=>0) (R:=(r:Rat)) (m:=0) n1 n2
  (λk _=>aUe) (λk hk=>(P.K k hk).iD) (λk _=>jM) (λk _=>.inl rfl) (λk _=>by decide +kernel) (λk hk=>(P.K k hk).nD) R1 (by grind) r0 hz0
 have iA0:IsZ a b Z9:=by rw[cA (g:=λ_=>Z9) λk _=>Cp.mul_zero _,zJ,Cp.mul_zero,Cp.mul_zero,uM]at dA;exact bWy iA (dA.mono (by grind))
 have gon:∀k,k<N->∀(R:Type)(K:Nat->Nat->Nat->Nat->Option R),bH2 (fI r) (fI cx) (fI cy) N k K=K (dK k).1 (dK k).2 (zK k).1 (zK k).2:=λk hk R K=>by
  have a:=P.goK k hk R λd1 d2=>jJ R (fI cx) (fI cy) d1 d2 λz1 z2=>K d1 d2 z1 z2
  rw[(P.K k hk).add]at a;exact a
 have gonF':∀k,k<N->∀(R:Type)(K:Nat->Nat->Nat->Nat->Option R),aWc aG vX jJ (fI r) (fI cx) (fI cy) N k K=K (dK k).1 (dK k).2 (zK k).1 (zK k).2:=λk hk R K=>by rw[aYt (by omega)];exact gon k hk R K
 have within:∀k,k<N->∀(R:Type)(K:KBO R),jQ R (zK k).1 (zK k).2 4787326403894837248 K=K true:=λk hk R K=>by have p:=bIy;have iZ:=(P.K k hk).iZ;have nZ:=(P.K k hk).nZ;unfold jQ yD;rw[rS iZ.1 (cR nZ.re (by grind)),aJ];simp only;rw[rS iZ.2 (cR nZ.im (by grind)),aJ]
 have c50:=Nl.ab_call (m:=0) (c:=0) (n:=N) (d:=dK) (z:=zK) (v:=λ_=>(0,0)) (q:=q) ⟨gon,λk hk H=>Nl.speed_nil (within k hk) H,λk hk R K=>by show dV R 0 0 0 0 _=_;rw[bT3];exact hq k hk R K⟩ (by omega) (by omega) (λH=>Nl.asked_nil hF H) (aFv g0 g1 g2) (x:=(g N).1) (y:=(g N).2) rfl hl;obtain⟨qf,hqf⟩:=pick (α:=Nat×Nat) (n:=N) (p:=λk x=>IsZ x.1 x.2 Z9/\∀(R:Type)(K:KNN R),(jV R (dK k).1 (dK k).2 λt1 t2=>xJ dV 0 0 [(0,0),(t1,t2),((dK k).1,(dK k).2)] K)=K x.1 x.2) (λk hk=>cAh (P.K k hk).iD (P.K k hk).nD R1 R2);obtain⟨gf,t,u1,u2,B,f0,f1,f2,et,hB,iB,nB,τ',_,_,_⟩:=aFw n1 n2 (q:=qf) (Q:=λ_=>Z9) (ρ:=λ_=>0) (m:=0) (λk hk=>(hqf k hk).1) (λk hk=>jM) (λk _=>.inl rfl) (λk _=>by decide +kernel) r0;obtain⟨p,p',wm,iC,iM,hfo⟩:=bY8 iA0 et (bWy iB (nB.mono (by grind))) hB;have hO:=λH=>Nl.of_force (x:=a) (y:=b) (q:=qf) (g:=gf) (u1:=(gf N).1) (u2:=(gf N).2) (a:=p) (b:=p') (w:=wm) (e:=0) ⟨gonF',within,λk hk=>(hqf k hk).2⟩ (by omega) (λH=>Nl.square_nil (λH=>Nl.up rfl c50 H) H) (aFv f0 f1 f2) rfl hfo H
 refine Nl.ft_call hs (by omega) hN gonF' hO (λH=>Nl.by_call hF S.ht H) λR K=>?_
 refine bH0 (B:=0) (U:=0) n1 n2 hr.r1 hr.r2 bXq Rat.le_refl (.inl rfl) (by decide +kernel) (by grind) Rat.le_refl (.inl rfl) iC (Y:=Z9) ⟨bZp,bXq⟩ iM bXq ?_ ?_ R K;· rw[uM];exact jM.mono (by grind)
 ·rw[show(0:Rat)-0=0 by grind,fO];grind
end Go.Vx
namespace Go.Proofs.YtaogignikkjkjaaGreat
theorem forceTwice_holds:Rows.ForceTwiceSaid:=aI3 Go.Vx.bZ6 Go.Vx.bZ7
end Go.Proofs.YtaogignikkjkjaaGreat
