/- A part; no conditions. -/
import Derived.Test.YtaogignikkjkjaaGreatVmXJ
import Derived.Deep.Slices
import Derived.Carry
import Derived.Lib.SmallJoins
import Derived.ProofKit
import Derived.OpenShut
set_option maxRecDepth 1000000
set_option maxHeartbeats 1000000
set_option linter.all false
open Go.Proofs.Tryz renaming prog->P9
open Rat renaming le_refl->R9
open Bool renaming and_eq_true->B9
open Go renaming Value->V9,IntKind->K9
namespace Go.Vx
open Go.Vm Ieee
theorem bEr{L W N S T P eps':Rat}(hP:0<P)(eW:W=T*P)(eN:N=S*(P*P))(W0:0<=W)(e0:0<=eps')(e1:eps'<=1/1000)(hT:(T*T-S).abs<=S*eps')(hL:(L-W).abs<=eps'/4*W)(hS:0<=S):(L*L-N).abs<=4*eps'*N:=by
 have p2:=bU (bN hP) (bN hP);have hW:(W*W-N).abs<=eps'*N:=by
  have e:W*W-N=(P*P)*(T*T-S):=by rw[eW,eN];grind
  rw[e,bD,fZ p2];have:=dI hT p2;rw[eN];grind
 have N0:0<=N:=by rw[eN];exact bU hS p2
 have WW:=bU W0 W0;have a:=aA.1 hW;have en:=cG e1 N0;have en0:=bU e0 N0;have hd:(L*L-W*W).abs<=6/10*eps'*(W*W):=by
  have e:L*L-W*W=(L-W)*(L-W+2*W):=by grind
  rw[e,bD];have b1:(L-W+2*W).abs<=21/10*W:=by have t:=aL (L-W) (2*W);rw[fZ (show 0<=2*W by grind)]at t;have:=cG e1 W0;grind
  have m:=aC hL b1 (aH _) (bU (by grind) W0);have ew:=bU e0 WW;grind
 have b:=aA.1 hd;have w1:W*W<=1001/1000*N:=by grind
 have w2:=dI w1 e0;exact aA.2 ⟨by grind,by grind⟩
theorem aMf{a b:Nat}{x y:Int}(ha:Is a (x:Rat))(hb:Is b (y:Rat))(h1:x.natAbs<=4000)(h2:y.natAbs<=4000)(h0:¬(x=0/\y=0)):
  ∃r L,Is r L/\0<=L/\(L*L-((x*x+y*y:Int):Rat)).abs<=4*eps*((x*x+y*y:Int):Rat)/\∀(R:Type)(k:KNO R),cQ R a b k=k r:=by
 have ep:=bI;have et:=bR;have o4:(((4000:Nat):Int):Rat)=4000:=rfl;have n1:=kJ h1;have n2:=kJ h2;rw[o4]at n1 n2;obtain⟨g,G,hg,gx,gy,hG,hgk⟩:=aCb ha hb;have one_le:∀{u:Int},u≠0->1<=(u:Rat).abs:=λ{u} hu=>by
  rcases Int.lt_or_gt_of_ne hu with h|h;· have:(u:Rat)<=((-1:Int):Rat):=Rat.intCast_le_intCast.2 (by omega);rw[show((-1:Int):Rat)=-1 from rfl]at this;rw[Rat.abs_of_nonpos (by grind)];grind
  ·have:((1:Int):Rat)<=(u:Rat):=Rat.intCast_le_intCast.2 (by omega);rw[show((1:Int):Rat)=1 from rfl]at this;rw[fZ (by grind)];exact this
 have hG1:1<=G:=by
  by_cases hx:x=0;· exact cR (one_le λhy=>h0 ⟨hx,hy⟩) gy
  ·exact cR (one_le hx) gx
 have hG4:G<=4000:=by rcases hG with h|h<;>grind
 have hG0:G≠0:=by grind
 have hpre:=aOy ha hb hg hG0 hgk;obtain⟨w,n,m1,m2,m3,m4,hfr⟩:=aL5 hg hG0;rw[fZ (show 0<=G by grind)]at m1 m2;have nlo:1<=n:=by
  refine Int.not_lt.1 λh=>?_
  have:=cY (show n<=0 by omega);rw[Rat.zpow_zero]at this;grind
 have nhi:n<=12:=by
  refine Int.not_lt.1 λh=>?_
  have:=cY (show(12:Int)<=n-1 by omega);rw[show(2:Rat)^(12:Int)=4096 by rw[show(12:Int)=((12:Nat):Int) by rfl,cN];rfl]at this;grind
 have pn:=bG (-n);have pp:=bG n;have hcan:(2:Rat)^n*(2:Rat)^(-n)=1:=jG n;have small:∀{u:Rat},u.abs<=G->(u*(2:Rat)^(-n)).abs<=1:=λ{u} h=>by rw[bD,sK];have:=cG (cR h (bN m2)) (bN pn);rwa[hcan]at this
 have sx:=small gx;have sy:=small gy;have lt23:∀{u:Rat},u.abs<=4->u.abs<(2:Rat)^(1023:Int):=λ{u} h=>kL (cR h (by decide +kernel))
 obtain⟨r1,X,i1,q1,s1⟩:=uK (n:=-n) ha (by omega) (by omega) (lt23 (by grind));obtain⟨r2,Y,i2,q2,s2⟩:=uK (n:=-n) hb (by omega) (by omega) (lt23 (by grind));have eX:X=(x:Rat)*(2:Rat)^(-n):=q1.rep x (-n) (by omega) (by omega) rfl;have eY:Y=(y:Rat)*(2:Rat)^(-n):=q2.rep y (-n) (by omega) (by omega) rfl;rw[<-eX]at sx;rw[<-eY]at sy;have pd:(2:Rat)^(-n)*(2:Rat)^(-n)=(2:Rat)^(-n+-n):=(bO _ _).symm;have sqX:=aC sx sx (aH X) (by decide);have sqY:=aC sy sy (aH Y) (by decide);rw[oL]at sqX sqY;have zX:=aT X;have zY:=aT Y;have nab:∀{u:Int},u.natAbs<=4000->(u*u).natAbs<=16000000:=λ{u} h=>by rw[Int.natAbs_mul];exact Nat.le_trans (Nat.mul_le_mul h h) (by decide)
 have nx:=nab h1;have ny:=nab h2;obtain⟨r3,P3,e3,i3,q3⟩:=kH i1 i1 (lt23 (by rw[fZ zX];grind));obtain⟨r4,P4,e4,i4,q4⟩:=kH i2 i2 (lt23 (by rw[fZ zY];grind));have c3:X*X=((x*x:Int):Rat)*(2:Rat)^(-n+-n):=by rw[eX,<-pd];push_cast;grind
 have c4:Y*Y=((y*y:Int):Rat)*(2:Rat)^(-n+-n):=by rw[eY,<-pd];push_cast;grind
 have v3:P3=X*X:=q3.rep (x*x) (-n+-n) (by omega) (by omega) c3;have v4:P4=Y*Y:=q4.rep (y*y) (-n+-n) (by omega) (by omega) c4;subst v3 v4;obtain⟨r5,S,e5,i5,q5⟩:=mJ i3 i4 (lt23 (by rw[fZ (by grind)];grind));have c5:X*X+Y*Y=((x*x+y*y:Int):Rat)*(2:Rat)^(-n+-n):=by rw[c3,c4];push_cast;grind
 have v5:S=X*X+Y*Y:=q5.rep (x*x+y*y) (-n+-n) (by omega) (by omega) c5;have half:1/2<=X.abs\/1/2<=Y.abs:=by
  have hhalf:(2:Rat)^(n-1)*(2:Rat)^(-n)=1/2:=by rw[<-bO,show n-1+-n=-1 by omega];have h3:=fA 0;rw[Rat.zpow_zero,show(0-1:Int)=-1 by decide]at h3;grind
  have:=cG m1 (bN pn);rw[hhalf]at this;rcases hG with h|h;· left;rw[eX,bD,sK,<-h];exact this
  ·right;rw[eY,bD,sK,<-h];exact this
 have S1:1/4<=S:=by
  rw[v5];rcases half with h|h;· have:=aC h h (by decide +kernel) (aH X);rw[oL]at this;grind
  ·have:=aC h h (by decide +kernel) (aH Y);rw[oL]at this;grind
 have S2:S<=2:=by rw[v5];grind
 obtain⟨r6,T,e6,i6,t0,t1⟩:=aQj i5 (by grind)
  (by
   have h6:=cY (show(10:Int)<=1000 by decide);have h8:(2:Rat)^(10:Int)=1024:=by rw[show(10:Int)=((10:Nat):Int) by rfl,cN];rfl
   grind) (by have:=aDf (show(-1000:Int)<=-53 by decide);grind)
 have hT2:T*T<=4:=by have:=aA.1 t1;have e51:(2:Rat)^(-51:Int)=eps:=rfl;rw[e51]at this;have:=dI et (show 0<=S by grind);grind
 have hT:T<=2:=by
  refine Rat.not_lt.1 λh=>?_
  have g2:=Rat.mul_lt_mul_of_pos_left h t0;grind
 have hT3:1/4<=T:=by
  refine Rat.not_lt.1 λh=>?_
  have g2:=dI (bN h) (bN t0);have:=aA.1 t1;have e51:(2:Rat)^(-51:Int)=eps:=rfl;rw[e51]at this;have:=dI et (show 0<=S by grind);grind
 have p12:(2:Rat)^n<=4096:=by have:=cY nhi;rwa[show(2:Rat)^(12:Int)=4096 by rw[show(12:Int)=((12:Nat):Int) by rfl,cN];rfl]at this
 have p1:1<=(2:Rat)^n:=by have:=cY (show(0:Int)<=n by omega);rwa[Rat.zpow_zero]at this
 have W0:0<=T*(2:Rat)^n:=bU (bN t0) (bN pp);have Wb:T*(2:Rat)^n<=8192:=by have:=aC hT p12 (bN pp) (by decide);grind
 have Wl:1/4<=T*(2:Rat)^n:=by have:=aC hT3 p1 (by decide) (bN t0);grind
 obtain⟨r7,L,i7,q7,s7⟩:=uK (n:=n) i6 (by omega) (by omega) (kL (by rw[fZ W0];grind));have q8:=vV q7 (B:=T*(2:Rat)^n) (by rw[fZ W0];exact R9) (cR mZ (by grind));have eN:((x*x+y*y:Int):Rat)=S*((2:Rat)^n*(2:Rat)^n):=by
  rw[v5,c5,Rat.mul_assoc];have:(2:Rat)^(-n+-n)*((2:Rat)^n*(2:Rat)^n)=1:=by rw[<-bO,<-bO,show -n+-n+(n+n)=0 by omega,Rat.zpow_zero]
  rw[this,Rat.mul_one]
 have hfin:=bEr pp rfl eN W0 (bN ep) (by grind) t1 q8 (by grind);refine⟨r7,L,i7,?_,hfin,λR k=>?_⟩;· have:=aA.1 q8;have:=cG et W0;grind
 ·rw[hpre];unfold yU aKj;rw[hgk,hfr];rw[show(0-n)=-n by omega,qI (by omega) (by omega),s1,s2];simp only[wR,aGs];rw[aK e3,aK e4,aK e5,aK e6,s7]
theorem aZj{a b:Nat}{x y:Int}(ha:Is a (x:Rat))(hb:Is b (y:Rat))(h1:x.natAbs<=4000)(h2:y.natAbs<=4000):
  ∃r L,Is r L/\0<=L/\(L*L-((x*x+y*y:Int):Rat)).abs<=4*eps*((x*x+y*y:Int):Rat)/\∀(R:Type)(k:KNO R),cQ R a b k=k r:=by
 by_cases h0:x=0/\y=0
 ·obtain⟨rfl,rfl⟩:=h0;have z0:(((0:Int):Rat)).abs<=1:=by rw[show((0:Int):Rat)=0 from rfl,fO];decide
  obtain⟨l,L,iL,L0,_,_,hL,hl⟩:=aCe (d:=1) ha hb z0 z0 (cR (cY (show(-900:Int)<=0 by decide)) (by rw[Rat.zpow_zero];decide)) (cR (show(1:Rat)<=(2:Rat)^(0:Int) by rw[Rat.zpow_zero];decide) (cY (by decide))) (.inl ⟨rfl,rfl⟩);refine⟨l,L,iL,L0,?_,hl⟩;rw[show((0*0+0*0:Int):Rat)=0 from rfl];rw[show((0:Int):Rat)=0 from rfl]at hL;have:=bU L0 L0;have e:L*L=0:=by grind
  rw[e];exact aA.2 ⟨by grind,by grind⟩
 ·exact aMf ha hb h1 h2 h0
end Go.Vx
namespace Go.Vm
open Go.Proofs Ieee
theorem jF{n:Int}(h:n.natAbs<2^53):Is (fI n) n:=pL h
theorem aCo{x y:Int}(h:smI x y=true):x.natAbs<=1000/\y.natAbs<=1000:=by unfold smI at h;simp only[B9,decide_eq_true_eq]at h;omega
structure qW(h:Th):Prop where
 small:h.small=true
 pow:h.p.natAbs<=1000
section
variable{h:Th}(f:qW h)
include f
theorem qW.xy:h.x.natAbs<=1000/\h.y.natAbs<=1000/\h.s.natAbs<=1000/\h.t.natAbs<=1000:=by have:=f.small;unfold Th.small at this;rw[B9]at this;have a:=aCo this.1;have b:=aCo this.2;exact⟨a.1,a.2,b.1,b.2⟩
theorem qW.at:IsC (fI h.x) (fI h.y) h.x h.y:=by have:=f.xy;exact⟨jF (by omega),jF (by omega)⟩
theorem qW.st:IsC (fI h.s) (fI h.t) h.s h.t:=by have:=f.xy;exact⟨jF (by omega),jF (by omega)⟩
end
open Classical in
noncomputable def erE(x:El):Int:=Classical.epsilon λe=>∀(R:Type)(k:KIO R),tA R x.kind x.a1 x.a2 x.s1 x.s2 x.p k=k e
theorem zO{h:Th}(f:qW h):aNy erE h.el:=by
 have b:=f.xy;have hp:=f.pow;have key:∃e,∀(R:Type)(k:KIO R),tA R h.el.kind h.el.a1 h.el.a2 h.el.s1 h.el.s2 h.el.p k=k e:=
  ⟨_,λR k=>aC5 f.at f.st (by omega) (by omega) (by omega) (by omega) (jF (n:=h.p) (by omega)).1 k⟩
 exact Classical.epsilon_spec key
theorem aOm{x y r:Int}(hs:smI x y=true)(h1:1<=r)(h2:r<=40000):bQw (fI x) (fI y) (fI r):=by have b:=aCo hs;have hc:IsC (fI x) (fI y) x y:=⟨jF (by omega),jF (by omega)⟩;have hr:Is (fI r) r:=jF (by omega);exact⟨λR k=>aNz hc (by omega) (by omega) k,bD4 hr h1,bMm hr (by omega)⟩
open Classical in
noncomputable def lwE(c1 c2:Nat)(x:El):Nat:=Classical.epsilon λl=>∀(R:Type)(k:KNO R),aGb gJ cQ R x.a1 x.a2 c1 c2 k=k l
theorem aTx{x y r:Int}(hs:smI x y=true)(h1:1<=r)(h2:r<=40000):∃S:jO (fI x) (fI y) (fI r),∀h:Th,qW h->aC2 (fI x) (fI y) S.lw h.el:=by
 have b:=aCo hs;have hc:IsC (fI x) (fI y) x y:=⟨jF (by omega),jF (by omega)⟩;have hr:Is (fI r) r:=jF (by omega);have r1:((1:Int):Rat)<=(r:Rat):=Rat.intCast_le_intCast.2 h1;have r2:(r:Rat)<=((40000:Int):Rat):=Rat.intCast_le_intCast.2 h2;have o1:((1:Int):Rat)=1:=rfl;have o2:((40000:Int):Rat)=40000:=rfl;rw[o1]at r1;rw[o2]at r2;obtain⟨t,T,e1,i1,q1⟩:=kH hr aOv (kL (by rw[aPt];exact aA.2 ⟨by grind,by grind⟩));have eT:T=r*(2:Rat)^(-20:Int):=q1.rep r (-20) (by omega) (by decide) rfl;rw[aPt]at eT;obtain⟨p,_,e2,_,_⟩:=mJ hr i1 (kL (by rw[eT];exact aA.2 ⟨by grind,by grind⟩));obtain⟨m,_,e3,_,_⟩:=qD hr i1 (kL (by rw[eT];exact aA.2 ⟨by grind,by grind⟩));refine⟨⟨t,p,m,lwE (fI x) (fI y),e1,e2,e3⟩,λh f=>?_⟩;have bb:=f.xy;obtain⟨d1,d2,hd,hsub⟩:=aDk f.at hc (by omega) (by omega);obtain⟨l,L,_,_,_,hl⟩:=Go.Vx.aZj hd.1 hd.2 (by omega) (by omega);have key:∃l,∀(R:Type)(k:KNO R),aGb gJ cQ R h.el.a1 h.el.a2 (fI x) (fI y) k=k l:=⟨l,λR k=>by unfold aGb;exact(hsub R _).trans (hl R k)⟩;exact Classical.epsilon_spec key
theorem bGr{h:Th}(f:qW h):aWn h.el:=λ_=>by have:=f.pow;have hi:Is h.el.p ((h.p:Int):Rat):=jF (n:=h.p) (by omega);refine⟨h.p,xR hi (by omega),?_⟩;have e:=bIp hi hi;simp only[decide_true,Bool.not_true]at e;exact e
section
variable{x y r:Int}(S:jO (fI x) (fI y) (fI r))
theorem jZ(gs:List Th):(els gs).length=gs.length:=by unfold els;simp
section
variable{cs:List V9}{sz o c:Nat}{gs:List Th}(hx:uP cs o (els gs))(hf:∀h∈gs,qW h)(hl:gs.length<=256)(hfl:kZ 0 cs=true)(hFit:bQw (fI x) (fI y) (fI r))(hsee:∀h:Th,qW h->aC2 (fI x) (fI y) S.lw h.el)
include hx hf hl hfl hFit
theorem bDj(he:∀h∈gs,erE h.el=0)(hse:∀h∈gs,aC2 (fI x) (fI y) S.lw h.el)(b:Bool):aD P9 38 [cW o gs.length c,ciV (fI x) (fI y) (fI r),.bool b] ⟨1,[(0,.cells cs sz)]⟩ (.int .i64 (bif(els gs).any (oC S) then 210 else 0)):=by
 have e:=jZ gs;have hck:=aD2 (sz:=sz) (c:=c) (er:=erE) hx (λ_ X hX=>by unfold els at hX;obtain⟨h,h1,rfl⟩:=List.mem_map.1 hX;exact zO (hf h h1));have h0:aEb erE (els gs)=0:=by
  unfold aEb;rw[if_neg (by omega)];have:∀l:List Int,(∀e∈l,e=0)->rY l=0:=λl=>by
   induction l with
   |nil=>intro _;rfl
   |cons a r ih=>intro ha;unfold rY;rw[if_pos (ha a (by simp))];exact ih λe he=>ha e (by simp[he])
  refine this _ λe hm=>?_
  obtain⟨X,hX,rfl⟩:=List.mem_map.1 hm;unfold els at hX;obtain⟨h,h1,rfl⟩:=List.mem_map.1 hX;exact he h h1
 rw[h0,e]at hck;have ha:=aGz hfl hck hFit;have:=aUn (S:=S) (b:=b) (c:=c) (sz:=sz) hx (by omega) (λX hX=>by
  unfold els at hX;obtain⟨h,h1,rfl⟩:=List.mem_map.1 hX;exact hse h h1) (λX hX=>by
  unfold els at hX;obtain⟨h,h1,rfl⟩:=List.mem_map.1 hX;exact bGr (hf h h1)) hfl (by rw[e];exact ha)
 rw[e]at this;exact this
include hsee
end
end
theorem aMg{P:Program}{f:FuncId}{argsc args:List V9}{es os:List V9}{sz t b:Nat}{H H1:AH}{v:Nat->V9}(hes:kZ 0 es=true)(hos:kZ 0 os=true)(hm:(b,.cells es sz)∈H.objs)(ha:qJ (only b) argsc=some args)(hv:nH (aFc (only b) 1 H.next [3]) (v 3)=some (v H.next))(hH1:(3,.cells os t)∈H1.objs)(hc:∀ρ w args',Inv ρ ⟨1,[(0,.cells es sz)]⟩ w->cF ρ argsc args'->Calls P f ⟨args'⟩ w λe w'=>∃ρ' v',e=.returned v'/\dW ρ' (v 3) v'/\Next 1 ρ ⟨1,[(0,.cells es sz)]⟩ w ρ' H1 w'):oK P f args H (v H.next) (H.push (.cells os t)):=
 aA8 (q:=only b) (bs:=[3]) (A:=[(H.next,.cells os t)]) (Hc:=⟨1,[(0,.cells es sz)]⟩) (H:=H) (vO hes hm) ha hv (λk o2 hk=>by
  simp only[List.mem_singleton,Prod.mk.injEq]at hk;obtain⟨rfl,rfl⟩:=hk;exact⟨3,_,hH1,rfl,by simp[pN,bQ hos]⟩) (λj hj=>by
  simp only[List.mem_singleton]at hj;subst hj;show 1<=3;omega) hc
open Go.Proofs Go.ChangeShapes Go.WideShapes Go.ChangeAt Go.RowKit Go.Deep
theorem aCt{H:AH}:Within (only 0) ⟨1,[]⟩ H:=⟨λj o h=>by simp at h,λj o h=>by simp at h,λj o o' h h'=>by simp at h,λj j' k h1 h2=>by rw[(uE h1).1,(uE h2).1],λj k h=>by rw[(uE h).1];exact Nat.zero_lt_one⟩
theorem aR8:∀{l:List V9},(∀v∈l,inn 0 v=true)->kZ 0 l=true
 |[],_=>rfl
 |v::r,h=>by simp only[kZ,B9];exact⟨h v (by simp),aR8 λu hu=>h u (by simp[hu])⟩
instance:Inhabited Th:=⟨⟨0,0,0,0,0,0⟩⟩
def xU(r:Nat):Nat:=(fbF .quo r 4611686018427387904).getD 0
def aHy(r:Nat):Nat:=(fbF .mul 4611686018427387904 r).getD 0
def aNl{c1 c2 r:Nat}(S:jO c1 c2 r)(X:El):Bool:=X.kind==1||(X.kind==4||(leF (S.lw X) (xU r)||geF (S.lw X) (aHy r)))
theorem aZm{x:Rat}(h:x.abs<=1000000000000000):x.abs<(2:Rat)^(1022:Int):=by
 have h6:=cY (show(50:Int)<=1022 by decide);have h8:(2:Rat)^(50:Int)=1125899906842624:=by rw[show(50:Int)=((50:Nat):Int) by rfl,cN];rfl
 grind
theorem aJa{r:Int}(h1:1<=r)(h2:r<=1000):fbF .quo (fI r) 4611686018427387904=some (xU (fI r))/\Is (xU (fI r)) ((r:Rat)/2):=by
 have hr:Is (fI r) r:=jF (by omega);have r1:((1:Int):Rat)<=(r:Rat):=Rat.intCast_le_intCast.2 h1;have r2:(r:Rat)<=((1000:Int):Rat):=Rat.intCast_le_intCast.2 h2;have o1:((1:Int):Rat)=1:=rfl;have o2:((1000:Int):Rat)=1000:=rfl;rw[o1]at r1;rw[o2]at r2;obtain⟨w,W,e,i,q⟩:=tU hr aEk (by grind) (aZm (aA.2 ⟨by grind,by grind⟩));have eW:W=(r:Rat)/2:=q.rep r (-1) (by omega) (by decide) (by have h3:=fA 0;rw[Rat.zpow_zero,show(0-1:Int)=-1 by decide]at h3;grind);subst eW;refine⟨?_,?_⟩;· unfold xU;rw[e];rfl
 ·unfold xU;rw[e];exact i
theorem aKt{r:Int}(h1:1<=r)(h2:r<=1000):fbF .mul 4611686018427387904 (fI r)=some (aHy (fI r))/\Is (aHy (fI r)) (2*(r:Rat)):=by
 have hr:Is (fI r) r:=jF (by omega);have r1:((1:Int):Rat)<=(r:Rat):=Rat.intCast_le_intCast.2 h1;have r2:(r:Rat)<=((1000:Int):Rat):=Rat.intCast_le_intCast.2 h2;have o1:((1:Int):Rat)=1:=rfl;have o2:((1000:Int):Rat)=1000:=rfl;rw[o1]at r1;rw[o2]at r2;obtain⟨w,W,e,i,q⟩:=kH aEk hr (kL (aA.2 ⟨by grind,by grind⟩));have eW:W=2*(r:Rat):=q.rep r 1 (by omega) (by decide) (by rw[show(1:Int)=((1:Nat):Int) by rfl,cN];grind);subst eW;refine⟨?_,?_⟩;· unfold aHy;rw[e];rfl
 ·unfold aHy;rw[e];exact i
structure Good{x y r:Int}(S:jO (fI x) (fI y) (fI r))(hs:List Th)(n:Int):Prop where
 len0:0<hs.length
 len6:hs.length<=6
 c:smI x y=true
 r1:1<=r
 r2:r<=1000
 n1:128<=n
 n2:n<=512
 fine:∀h∈hs,qW h
 see:∀h:Th,qW h->aC2 (fI x) (fI y) S.lw h.el
 chk:∀h∈hs,erE h.el=0
 off:∀h∈hs,oC S h.el=false
 well:∀h∈hs,aNl S h.el=true
 clean:∀b:Bool,aD P9 38 [cW 0 hs.length hs.length,ciV (fI x) (fI y) (fI r),.bool b] ⟨1,[(0,.cells (cellsOf (els hs)) 4)]⟩ (.int .i64 0)
open Ieee
theorem bVb{x z B:Rat}(h:Rnd x z)(hx:x.abs<=B)(hB:1/1000<=B):(z-x).abs<=26/100*B*eps/\z.abs<=B*(1001/1000):=by have f:=h.fine;have ts:=pT;have ep:=bI;have e6:=bR4;have m:=cG hx (show 0<=eps/4 by grind);have m2:=cG hB (bN ep);have m3:=dI e6 (show 0<=B by grind);have t:=aL (z-x) x;rw[show z-x+x=z by grind]at t;exact⟨by grind,by grind⟩
theorem aY7{w:Nat}{x:Rat}(h:Is w x):w%2^63<9218868437227405312:=by
 cases hf:aA0 w with
 |true=>
  unfold aA0 at hf;rw[nl]at hf;have hE:xT w<2047:=by simpa using hf
  have hEe:xT w=w/4503599627370496%2048:=rfl;omega
 |false=>exfalso;obtain⟨_,s,m,i,h1,_⟩:=kW h;rcases aTh hf with g|⟨t,g⟩<;>(rw[g]at h1;cases h1)
theorem aY9{w:Nat}{x:Rat}(h:Is w x):Is (w%2^63) x.abs:=by have:=kW h;rw[aDq]at this;exact this
theorem bL8{VV D P Q TT m e:Rat}(a1:-(3/100000000)<=VV-D)(a2:VV-D<=3/100000000)(b1:-(26/100*(121/100)*e)<=P-VV)(b2:P-VV<=26/100*(121/100)*e)(m2:26/100*(121/100)*e<=26/100*(121/100)*(1/1000000000))(c1:-(26/100*3*e)<=Q-(P+1))(c2:Q-(P+1)<=26/100*3*e)(d1:-m<=TT-Q)(d2:TT-Q<=m)(m4:m<=3*e)(e6:e<=1/1000000000):(TT-(1+D)).abs<=1/10000000:=
 aA.2 ⟨by grind,by grind⟩
theorem aR5{big small:Nat}{X Y:Rat}(hX:Is big X)(hY:Is small Y)(h1:1<=X)(h2:X<=2000)(h3:0<=Y)(h4:Y<=X):∃h H,Is h H/\0<=H/\(H*H-(X*X+Y*Y)).abs<=(X*X+Y*Y)/1000000/\∀(R:Type)(k:KNO R),bQk big small k=k h:=by
 have ep:=bI;have e6:eps<=1/1000000000:=by have:=bR;grind
 have ts:=pT;have Xn:X≠0:=by grind
 have q1:Y/X*X=Y:=by rw[Rat.div_def,Rat.mul_assoc,Rat.inv_mul_cancel _ Xn,Rat.mul_one]
 have b1:=aXl (Q:=1) (A:=X) (D:=X) q1 (by rw[fZ h3];exact h4) (by rw[fZ (by grind)];exact R9) (by grind) (by grind) (by grind);obtain⟨r,V,f1,i1,d1⟩:=tU hY hX Xn (cAr (by grind));have hV:(V-Y/X).abs<=1/100000000:=by have f:=d1.fine;have m:=cG b1 (show 0<=eps/4 by grind);grind
 have V2:V.abs<=11/10:=by have t:=aL (V-Y/X) (Y/X);rw[show V-Y/X+Y/X=V by grind]at t;grind
 have s0:=aT V;have s1:V*V<=121/100:=by have:=aC V2 V2 (aH V) (by grind);rw[<-bD,aNb]at this;grind
 have aV:(V*V).abs<=121/100:=by rw[aNb];exact s1
 obtain⟨p,P,f2,i2,d2⟩:=kH i1 i1 (kA (by grind));have g2:=aA.1 (bVb d2 aV (by grind)).1;have m2:=dI e6 (show(0:Rat)<=26/100*(121/100) by grind);obtain⟨q,Q,f3,i3,d3⟩:=mJ i2 bIu (kA (aA.2 ⟨by grind,by grind⟩));have g3:=aA.1 (bVb d3 (B:=3) (aA.2 ⟨by grind,by grind⟩) (by grind)).1;have Q2:Q<=3:=by grind
 obtain⟨l,T,f4,i4,T0,d4⟩:=aQj i3 (by grind) (by
  have h6:=cY (show(10:Int)<=1000 by decide);have h8:(2:Rat)^(10:Int)=1024:=by rw[show(10:Int)=((10:Nat):Int) by rfl,cN];rfl
  grind) (by
  have:=zW (B:=1/1000) (by grind);grind)
 have g4:=aA.1 d4;have m4:Q*(2:Rat)^(-51:Int)<=3*eps:=by show Q*eps<=3*eps;exact cG Q2 (bN ep)
 have T1:1/2<=T:=nX (bN T0) (by grind);have T2:T<=2:=nX (by grind) (by grind);have w2:=aC T2 h2 (by grind) (by grind);have w3:0<=T*X:=bU (bN T0) (by grind);obtain⟨h,H,f5,i5,d5⟩:=kH i4 hX (kL (aA.2 ⟨by grind,by grind⟩));have f5':=d5.fine;rw[fZ w3]at f5';have hVV:(V*V-Y/X*(Y/X)).abs<=3/100000000:=by
  have e:V*V-Y/X*(Y/X)=(V-Y/X)*(V+Y/X):=by grind
  rw[e,bD];have t:=aL V (Y/X);have:=aC hV (show(V+Y/X).abs<=3 by grind) (aH _) (by grind);grind
 have hTT:(T*T-(1+Y/X*(Y/X))).abs<=1/10000000:=by have a1:=aA.1 hVV;exact bL8 a1.1 a1.2 g2.1 g2.2 m2 g3.1 g3.2 g4.1 g4.2 m4 e6
 have XX:X*X*(Y/X*(Y/X))=Y*Y:=by
  have:X*X*(Y/X*(Y/X))=(Y/X*X)*(Y/X*X):=by grind
  rw[this,q1]
 have xx0:0<=X*X:=bU (by grind) (by grind);have yy0:0<=Y*Y:=bU h3 h3;have hU:(T*X*(T*X)-(X*X+Y*Y)).abs<=X*X*(1/10000000):=by
  have e:T*X*(T*X)-(X*X+Y*Y)=X*X*(T*T-(1+Y/X*(Y/X))):=by rw[<-XX];grind
  rw[e,bD,fZ xx0];exact dI hTT xx0
 have tx:T*X<=2*X:=cG T2 (by grind);have H1:(H-T*X).abs<=X*(1/1000000000):=by have m5:=cG tx (show 0<=eps/4 by grind);have m6:=dI e6 (show(0:Rat)<=X by grind);grind
 have H0:0<=H:=by have g5:=aA.1 H1;have:=cG T1 (show(0:Rat)<=X by grind);grind
 refine⟨h,H,i5,H0,?_,λR k=>?_⟩
 ·have e:H*H-T*X*(T*X)=(H-T*X)*(H+T*X):=by grind
  have t1:(H+T*X).abs<=5*X:=by have g5:=aA.1 H1;exact aA.2 ⟨by grind,by grind⟩
  have m:=aC H1 t1 (aH _) (bU (by grind) (by grind));rw[<-bD,<-e]at m;have t:=aL (H*H-T*X*(T*X)) (T*X*(T*X)-(X*X+Y*Y));rw[show H*H-T*X*(T*X)+(T*X*(T*X)-(X*X+Y*Y))=H*H-(X*X+Y*Y) by grind]at t;grind
 unfold bQk;rw[aK f1,aK f2,aK f3,aK f4,aK f5]
theorem aA3{n:Int}(h:n≠0):(1:Rat)<=((n:Rat)).abs:=by rw[wE];exact_mod_cast Int.natAbs_pos.2 h
theorem aHd(x:Int):((x:Rat)).abs*((x:Rat)).abs=((x*x:Int):Rat):=by rw[<-bD,aNb];push_cast;rfl
theorem bL9{a b:Nat}{x y:Int}(wa:Wd a x)(wb:Wd b y)(h1:x.natAbs<=2000)(h2:y.natAbs<=2000):∃h H,Is h H/\0<=H/\(H*H-((x*x+y*y:Int):Rat)).abs<=((x*x+y*y:Int):Rat)/1000000/\∀(R:Type)(k:KNO R),aCc R a b k=k h:=by
 have ha:=wa.1;have hb:=wb.1;have ia:=aY9 ha;have ib:=aY9 hb;have fa:=aY7 ha;have fb:=aY7 hb;have ba:((x:Rat)).abs<=2000:=by rw[wE];exact_mod_cast h1
 have bb:((y:Rat)).abs<=2000:=by rw[wE];exact_mod_cast h2
 have na:=aH (x:Rat);have nb':=aH (y:Rat);have e1:=aHd x;have e2:=aHd y;have eN:((x*x+y*y:Int):Rat)=((x*x:Int):Rat)+((y*y:Int):Rat):=by push_cast;rfl
 have c1:(Nat.blt (a%2^63) 9218868437227405312&&Nat.blt (b%2^63) 9218868437227405312)=true:=by simp only[B9,Nat.blt_eq];exact⟨fa,fb⟩
 have z:∀{w:Nat}{n:Int},Is w ((n:Rat)).abs->w=0->n=0:=λ{w n} h e=>by
  subst e;have:=aY8 h hJ;rw[show((0:Int):Rat)=0 from rfl]at this;refine Classical.byContradiction λhn=>?_
  have:=aA3 hn;grind
 cases c2:(Nat.beq (a%2^63) 0&&Nat.beq (b%2^63) 0) with
 |true=>simp only[B9,Nat.beq_eq]at c2;have z1:=z ia c2.1;have z2:=z ib c2.2;subst z1 z2;refine⟨0,0,is0,R9,by decide +kernel,λR k=>?_⟩;unfold aCc;rw[c1,c2.1,c2.2];rfl
 |false=>
  have c3:ltF (a%2^63) (b%2^63)=decide (((x:Rat)).abs<((y:Rat)).abs):=zZ ia ib;have one:(1:Rat)<=((x:Rat)).abs\/(1:Rat)<=((y:Rat)).abs:=by
   by_cases hx:x=0
   ·by_cases hy:y=0
    ·exfalso;subst hx hy;rw[wa.2 rfl,wb.2 rfl]at c2;cases c2
    ·exact .inr (aA3 hy)
   ·exact .inl (aA3 hx)
  by_cases hl:((x:Rat)).abs<((y:Rat)).abs;· obtain⟨h,H,i,p,q,f⟩:=aR5 ib ia (by rcases one with g|g<;>grind) bb na (bN hl);refine⟨h,H,i,p,by rw[eN,<-e1,<-e2,Rat.add_comm];exact q,λR k=>?_⟩;unfold aCc;rw[c1,c2,c3,D7 hl];exact f R k
  ·obtain⟨h,H,i,p,q,f⟩:=aR5 ia ib (by rcases one with g|g<;>grind) ba nb' (Rat.not_lt.1 hl);refine⟨h,H,i,p,by rw[eN,<-e1,<-e2];exact q,λR k=>?_⟩;unfold aCc;rw[c1,c2,c3,E7 hl];exact f R k
open Go.Proofs
noncomputable def tmA:Code:=sI (bB 22) 0
abbrev bP8:=∀R:Type,List V9->Nat->(Int->Int->Int->Int->Int->Int->Option R)->Option R
def bX9(a b c d e f:Int):List V9:=[.int .i64 a,.int .i64 b,.int .i64 c,.int .i64 d,.int .i64 e,.int .i64 f]
def bZa(g:bP8):Ld:=λR cs off k=>g R cs off λa b c d e f=>k (.agg ⟨bX9 a b c d e f⟩)
noncomputable def tmC(lim:Nat->Bool)(fi:Fi)(g6:bP8)(wh:KIF)(ab:KFF)(md hy:vS)(st:St)(ap:Ap):Cx:=
 cxM fi P9 (λ_ _=>none) [(19,sIF wh),(21,sFF ab),(20,aGc md),(59,bNx hy)] [] [] [] (aPh lim [(97,bZa g6)] st ap)
def tmE(n c:Nat)(k:Int):Env:=[(7,.int .i64 k),(0,.slice (some ⟨0,0,none⟩) n c),(3,.pointer (some ⟨1,0,none⟩)),(4,.pointer (some ⟨2,0,none⟩)),(6,.pointer (some ⟨3,0,none⟩))]
def tmO(u v:V9)(c1 c2 r:Nat):dF:=[(3,.cells [v] 0),(2,.cells [u] 0),(1,.cells [.complex .f64 c1 c2,.float .f64 r] 0)]
def tmD(v:V9)(c1 c2 r:Nat):dF:=tmO bL v c1 c2 r
def aPn(b:Nat):Bool:=Nat.beq b 0||Nat.beq b 4
def tmF{R:Type}(wh:KIF)(hy:vS)(b c:Int)(c1 c2 r:Nat)(bad:Option R)(go:KNN R):Option R:=
 wh R b λx=>wh R c λy=>aM (fbF .sub x c1) λu=>aM (fbF .sub y c2) λv=>hy R u v λd=>
 aM (fbF .mul r 4602660804774137430) λt=>bif gtF d t then aM (fbF .mul r 4611688270227201589) λt=>bif ltF d t then bad else go x y else go x y
def tmG{R:Type}(wh:KIF)(ab:KFF)(hy:vS)(b c:Int)(c1 c2 r:Nat)(bad:Option R)(go:KNN R):Option R:=
 wh R b λx=>wh R c λy=>aM (fbF .sub x c1) λu=>aM (fbF .sub y c2) λv=>hy R u v λd=>
 aM (fbF .sub d r) λt=>ab R t λt=>aM (fbF .quo r 4634204016564240384) λq=>bif ltF t q then bad else go x y
def tmR{R:Type}(fi:Fi)(g6:bP8)(wh:KIF)(ab:KFF)(md hy:vS)(cs:List V9)(n k c1 c2 r:Nat)(bad:Option R)(go:Int->Nat->Nat->Nat->Nat->Nat->Option R):Option R:=
 bif decide (0<=(k:Int))&&decide ((k:Int)<n)&&true then
  g6 R cs (0+k*6) λa b c d e f=>wh R d λs1=>wh R e λs2=>wh R f λp=>ab R p λp=>
  fi R (a.tmod 4) λa=>fi R (K9.i64.wrap (a+4)) λa=>fi R (a.tmod 4) λa=>
  bif a==1 then tmF wh hy b c c1 c2 r bad λx y=>go 2 x y s1 s2 0
  else bif a==2 then md R p 4620693217682128896 λm=>aM (fbF .add 4607182418800017408 m) λq=>tmF wh hy b c c1 c2 r bad λx y=>go 3 x y s1 s2 q
  else bif a==3 then md R p 4616189618054758400 λm=>aM (fbF .add 4607182418800017408 m) λq=>tmG wh ab hy b c c1 c2 r bad λx y=>go 4 x y s1 s2 q
  else go 1 0 0 s1 s2 0
 else none
section
variable(fi:Fi)(R:Type)(g6:bP8)(wh:KIF)(ab:KFF)(md hy:vS)(st:St)(ap:Ap)(cs os:List V9)(sz n c k j c1 c2 r:Nat)(K:Ex->Env->dF->Option R)
theorem aNh:bE (tmC oa0 fi g6 wh ab md hy st ap) 60 noL 1 127 tmA (tmE n c k) ⟨4,tmD bL c1 c2 r++[(0,.cells cs sz)]⟩ (aU [7,0,3,4,6,5] [3,2,1,7] K) =
  bif decide ((k:Int)<n) then bif decide ((k:Int)<6) then
   tmR fi g6 wh ab md hy cs n k c1 c2 r (K .ret (tmE n c k++[(5,.bool false)]) (tmO bL bL c1 c2 r)) λkind a1 a2 s1 s2 p=>
    fi R (K9.i64.wrap (k+1)) λi=>K .normal (tmE n c i) (tmD (sl3 7 1) c1 c2 r++[(7,.cells [.int .u8 kind,.complex .f64 a1 a2,.complex .f64 s1 s2,.float .f64 p] 4)])
  else K (.exit 0) (tmE n c k) (tmD bL c1 c2 r) else K (.exit 0) (tmE n c k) (tmD bL c1 c2 r):=by kernel_rfl
theorem aNi:bE (tmC aPn fi g6 wh ab md hy st ap) 60 noL 1 127 tmA (tmE n c k) ⟨5,tmD (sl3 4 j) c1 c2 r++[(4,.cells os 4),(0,.cells cs sz)]⟩ (aU [7,0,3,4,6,5] [3,2,1,8] K) =
  bif decide ((k:Int)<n) then bif decide ((k:Int)<6) then
   tmR fi g6 wh ab md hy cs n k c1 c2 r (K .ret (tmE n c k++[(5,.bool false)]) (tmO (sl3 4 j) (sl3 4 j) c1 c2 r)) λkind a1 a2 s1 s2 p=>ap R 27 os j j [.int .u8 kind,.complex .f64 a1 a2,.complex .f64 s1 s2,.float .f64 p] 0 1 λos=>
    fi R (K9.i64.wrap (k+1)) λi=>K .normal (tmE n c i) (tmD (sl3 8 (j+1)) c1 c2 r++[(8,.cells os 4)])
  else K (.exit 0) (tmE n c k) (tmD (sl3 4 j) c1 c2 r) else K (.exit 0) (tmE n c k) (tmD (sl3 4 j) c1 c2 r):=by kernel_rfl
theorem bCb:bE (tmC aPn fi g6 wh ab md hy st ap) 60 noL 1 127 tmA (tmE n c k) ⟨5,tmD (sl3 4 j) c1 c2 r++[(4,.cells os 4),(0,.cells cs sz)]⟩ (aU [7,0,3,4,6,5] [3,2,1,4] K) =
  bif decide ((k:Int)<n) then bif decide ((k:Int)<6) then
   tmR fi g6 wh ab md hy cs n k c1 c2 r (K .ret (tmE n c k++[(5,.bool false)]) (tmO (sl3 4 j) (sl3 4 j) c1 c2 r++[(4,.cells os 4)])) λkind a1 a2 s1 s2 p=>ap R 27 os j j [.int .u8 kind,.complex .f64 a1 a2,.complex .f64 s1 s2,.float .f64 p] 0 1 λos=>
    fi R (K9.i64.wrap (k+1)) λi=>K .normal (tmE n c i) (tmD (sl3 8 (j+1)) c1 c2 r)
  else K (.exit 0) (tmE n c k) (tmD (sl3 4 j) c1 c2 r++[(4,.cells os 4)]) else K (.exit 0) (tmE n c k) (tmD (sl3 4 j) c1 c2 r++[(4,.cells os 4)]):=by kernel_rfl
variable(L:qR)(u v:V9)(lim:Nat->Bool)
theorem bJm:bE (tmC oa0 fi g6 wh ab md hy st ap) 60 (eS [7,0,3,4,6] [3,2,1,0] L) 1 127 (bB 22) (gX 0 [.slice (some ⟨0,0,none⟩) n c,ciV c1 c2 r]) ⟨1,[(0,.cells cs sz)]⟩ (aU [4,5] [2,4] K) =
  L R 1 127 tmA (tmE n c 0) ⟨4,tmD bL c1 c2 r++[(0,.cells cs sz)]⟩ (fS 0 (jP (λen H=>bE (tmC oa0 fi g6 wh ab md hy st ap) 60 (eS [7,0,3,4,6] [3,2,1,0] L) 1 127 (lJ 3 (bB 22)) en H (aU [4,5] [2,4] K)) (aU [4,5] [2,4] K))):=by kernel_rfl
theorem bV1:bE (tmC oa0 fi g6 wh ab md hy st ap) 60 L 1 127 (lJ 3 (bB 22)) (tmE n c k) ⟨5,tmD (sl3 4 j) c1 c2 r++[(4,.cells os 4),(0,.cells cs sz)]⟩ (aU [4,5] [2,4] K) =
  K .ret [(4,.pointer (some ⟨2,0,none⟩)),(5,.bool true)] [(2,.cells [sl3 4 j] 0),(4,.cells os 4)]:=by kernel_rfl
end
structure Six where
 kind:Int
 x:Int
 y:Int
 s:Int
 t:Int
 p:Int
def Six.cs(h:Six):List V9:=bX9 h.kind h.x h.y h.s h.t h.p
def aGe(cs:List V9)(xs:List Six):Prop:=∀i h,xs[i]?=some h->∃rest,cs.drop (0+i*6)=h.cs++rest
def Wn(n:Int):Int:=n.tmod 1001
theorem yZ(n:Int):(Wn n).natAbs<=1000:=by unfold Wn;have:=Int.tmod_lt_of_pos n (show(0:Int)<1001 by decide);have:=Int.lt_tmod_of_pos n (show(0:Int)<1001 by decide);omega
def xZ(n:Int):Int:=(n.tmod 4+4).tmod 4
def mB(h:Six):Th:=
 bif xZ h.kind==1 then⟨2,Wn h.x,Wn h.y,Wn h.s,Wn h.t,0⟩
 else bif xZ h.kind==2 then⟨3,Wn h.x,Wn h.y,Wn h.s,Wn h.t,((1+(Wn h.p).natAbs%8:Nat):Int)⟩
 else bif xZ h.kind==3 then⟨4,Wn h.x,Wn h.y,Wn h.s,Wn h.t,((1+(Wn h.p).natAbs%4:Nat):Int)⟩
 else⟨1,0,0,Wn h.s,Wn h.t,0⟩
def aR6(x y:Int):Nat:=(aCc Nat (fI x) (fI y) some).getD 0
def bQt(r:Nat):Nat:=(fbF .mul r 4602660804774137430).getD 0
def bBy(r:Nat):Nat:=(fbF .mul r 4611688270227201589).getD 0
def t64(r:Nat):Nat:=(fbF .quo r 4634204016564240384).getD 0
def bX4(d r:Nat):Nat:=wV ((fbF .sub d r).getD 0)
def aG2(cx cy r:Int)(h:Th):Bool:=(h.kind==2||h.kind==3)&&(gtF (aR6 (h.x-cx) (h.y-cy)) (bQt (fI r))&&ltF (aR6 (h.x-cx) (h.y-cy)) (bBy (fI r)))||(h.kind==4&&ltF (bX4 (aR6 (h.x-cx) (h.y-cy)) (fI r)) (t64 (fI r)))
theorem mU{R:Type}(n:Int)(k:KNO R):jC R n k=k (fI (Wn n)):=by unfold jC aQt;rw[aI,cB];rfl
theorem bK4{w:Nat}{n:Int}(h:Wd w n)(hn:n.natAbs<2^53):w=fI n:=bV6 h (pU hn)
theorem aRh{a b:Int}(ha:a.natAbs<=1000000)(hb:b.natAbs<=1000000):fbF .sub (fI a) (fI b)=some (fI (a-b)):=by obtain⟨r,e,h⟩:=bJo (pU (n:=a) (by omega)) (pU (n:=b) (by omega)) (by omega);have:=bK4 h (by omega);subst this;exact e
theorem bHs{p:Int}(h:p.natAbs<=1000000):wV (fI p)=fI (p.natAbs:Nat):=by
 refine bK4 ⟨?_,λh0=>?_⟩ (by omega);· have:=kW (jF (n:=p) (by omega));rw[wE]at this;rwa[Rat.intCast_natCast]
 ·have:p=0:=by omega
  subst this;decide
theorem xW{a b:Nat}(ha:a<=1000000)(hb:b<=1000000)(h:fI (a:Int)=fI (b:Int)):a=b:=by have ia:=jF (n:=(a:Int)) (by omega);have ib:=jF (n:=(b:Int)) (by omega);rw[h]at ia;have:=aY8 ia ib;rw[Rat.intCast_natCast,Rat.intCast_natCast]at this;exact Nat.le_antisymm (aHn.1 (by rw[this];exact R9)) (aHn.1 (by rw[this];exact R9))
noncomputable def mdK:vS:=λR a b k=>
 letI:=Classical.propDecidable
 if h:∃p:Nat,p<=1000/\a=fI (p:Int) then
  (if b=4620693217682128896 then k (fI ((Classical.choose h%2^3:Nat):Int)) else if b=4616189618054758400 then k (fI ((Classical.choose h%2^2:Nat):Int)) else none)
 else none
theorem aRq{f:FuncId}{args:List V9}{v:V9}(h:aD P9 f args ⟨0,[]⟩ v)(ha:kZ 0 args=true)(w:World):Calls P9 f ⟨args⟩ w λe w'=>e=.returned v/\RowKit.Below w.heap.size w w':=
 h (λ_=>none) w args ⟨λ_ _=>rfl,λk o hm=>by simp at hm,λk o o' hm=>by simp at hm,⟨λk o hm=>by simp at hm,λk o k' o' s s' hm=>by simp at hm⟩⟩ (cF.ofFlat _ ha)
theorem k20:cH P9 20 (aGc mdK):=λR args k r hr=>by
 unfold aGc at hr;split at hr
 ·unfold mdK at hr;split at hr
  ·rename_i a b h;have hc:=Classical.choose_spec h;generalize Classical.choose h=q at hc hr;split at hr
   ·rename_i hb;subst hb;refine⟨rfl,_,hr,rfl,λw=>?_⟩;refine aRq ?_ rfl w;rw[hc.2];exact aSr bTy hc.1
   ·split at hr
    ·rename_i hb;subst hb;refine⟨rfl,_,hr,rfl,λw=>?_⟩;refine aRq ?_ rfl w;rw[hc.2];exact aSr bTx hc.1
    ·cases hr
  ·cases hr
 ·cases hr
theorem cAc{p:Nat}(hp:p<=1000){R:Type}(k:KNO R):mdK R (fI (p:Int)) 4620693217682128896 k=k (fI ((p%8:Nat):Int)):=by unfold mdK;have h:∃q:Nat,q<=1000/\fI (p:Int)=fI (q:Int):=⟨p,hp,rfl⟩;rw[dif_pos h,if_pos rfl];have hc:=Classical.choose_spec h;rw[<-xW (by omega) (by omega) hc.2]
theorem cAb{p:Nat}(hp:p<=1000){R:Type}(k:KNO R):mdK R (fI (p:Int)) 4616189618054758400 k=k (fI ((p%4:Nat):Int)):=by unfold mdK;have h:∃q:Nat,q<=1000/\fI (p:Int)=fI (q:Int):=⟨p,hp,rfl⟩;rw[dif_pos h,if_neg (by decide),if_pos rfl];have hc:=Classical.choose_spec h;rw[<-xW (by omega) (by omega) hc.2]
theorem aS3{m:Nat}(hm:m<=1000):fbF .add 4607182418800017408 (fI (m:Int))=some (fI ((1+m:Nat):Int)):=by obtain⟨r,e,h⟩:=bV5 (pU (n:=1) (by decide)) (pU (n:=(m:Int)) (by omega)) (by omega);have:=bK4 h (by omega);subst this;rw[show((1+m:Nat):Int)=1+(m:Int) by omega];exact e
theorem aYz{x y:Int}(h1:x.natAbs<=2000)(h2:y.natAbs<=2000):∃H,Is (aR6 x y) H/\0<=H/\(H*H-((x*x+y*y:Int):Rat)).abs<=((x*x+y*y:Int):Rat)/1000000/\∀(R:Type)(k:KNO R),aCc R (fI x) (fI y) k=k (aR6 x y):=by
 obtain⟨h,H,i,p,q,f⟩:=bL9 (pU (n:=x) (by omega)) (pU (n:=y) (by omega)) h1 h2;have e:aR6 x y=h:=by unfold aR6;have:=f Nat some;have e2:aCc Nat (fI x) (fI y) some=some h:=this;rw[e2];rfl
 rw[e];exact⟨H,i,p,q,f⟩
theorem bZo:∃v,Is 4602660804774137430 v/\(v-499/1000).abs<=1/1000000000:=⟨dv false 8989184856231510 (-54),⟨by decide,false,8989184856231510,-54,by decide,rfl⟩,by decide +kernel⟩
theorem bS1:∃v,Is 4611688270227201589 v/\(v-2001/1000).abs<=1/1000000000:=⟨dv false 4505851427184181 (-51),⟨by decide,false,4505851427184181,-51,by decide,rfl⟩,by decide +kernel⟩
theorem cFr:Is 4634204016564240384 64:=jF (n:=64) (by decide)
structure Rin(cx cy r:Int):Prop where
 x:cx.natAbs<=1000
 y:cy.natAbs<=1000
 r1:1<=r
 r2:r<=1000
section
variable{cx cy r:Int}(hr:Rin cx cy r)
include hr
theorem bI2:(1:Rat)<=(r:Rat)/\(r:Rat)<=1000:=by have r1:((1:Int):Rat)<=(r:Rat):=Rat.intCast_le_intCast.2 hr.r1;have r2:(r:Rat)<=((1000:Int):Rat):=Rat.intCast_le_intCast.2 hr.r2;exact⟨r1,r2⟩
theorem bNo:Is (fI r) (r:Rat):=jF (by have:=hr.r1;have:=hr.r2;omega)
theorem bBz:fbF .mul (fI r) 4602660804774137430=some (bQt (fI r))/\∃v,Is (bQt (fI r)) v/\(v-499/1000*(r:Rat)).abs<=(r:Rat)/100000000:=by
 obtain⟨v,iv,bv⟩:=bZo;obtain⟨r1,r2⟩:=bI2 hr;have b:=aA.1 bv;have m1:=dI b.1 (show 0<=(r:Rat) by grind);have m2:=dI b.2 (show 0<=(r:Rat) by grind);obtain⟨z,Z,e,i,q⟩:=kH (bNo hr) iv (kL (aA.2 ⟨by grind,by grind⟩));have n:=q.le (B:=r) (aA.2 ⟨by grind,by grind⟩) (zW (by grind));have e6:eps<=1/1000000000:=by have:=bR;grind
 have m3:=cG e6 (show 0<=(r:Rat) by grind);have n:=aA.1 n;unfold bQt;rw[e];exact⟨rfl,Z,i,aA.2 ⟨by grind,by grind⟩⟩
theorem aT6:fbF .mul (fI r) 4611688270227201589=some (bBy (fI r))/\∃v,Is (bBy (fI r)) v/\(v-2001/1000*(r:Rat)).abs<=(r:Rat)/100000000:=by
 obtain⟨v,iv,bv⟩:=bS1;obtain⟨r1,r2⟩:=bI2 hr;have b:=aA.1 bv;have m1:=dI b.1 (show 0<=(r:Rat) by grind);have m2:=dI b.2 (show 0<=(r:Rat) by grind);obtain⟨z,Z,e,i,q⟩:=kH (bNo hr) iv (kL (aA.2 ⟨by grind,by grind⟩));have n:=q.le (B:=3*r) (aA.2 ⟨by grind,by grind⟩) (zW (by grind));have e6:eps<=1/1000000000:=by have:=bR;grind
 have m3:=cG e6 (show 0<=3*(r:Rat) by grind);have n:=aA.1 n;unfold bBy;rw[e];exact⟨rfl,Z,i,aA.2 ⟨by grind,by grind⟩⟩
theorem bJi:fbF .quo (fI r) 4634204016564240384=some (t64 (fI r))/\∃v,Is (t64 (fI r)) v/\(v-(r:Rat)/64).abs<=(r:Rat)/100000000:=by
 obtain⟨r1,r2⟩:=bI2 hr;obtain⟨z,Z,e,i,q⟩:=tU (bNo hr) cFr (by decide) (aZm (aA.2 ⟨by grind,by grind⟩));have e6:eps<=1/1000000000:=by have:=bR;grind
 have f:=q.fine;have ts:=pT;rw[fZ (show 0<=(r:Rat)/64 by grind)]at f;have m:=dI e6 (show 0<=(r:Rat)/64 by grind);have f:=aA.1 f;unfold t64;rw[e];exact⟨rfl,Z,i,aA.2 ⟨by grind,by grind⟩⟩
theorem aZ0{d:Nat}{D:Rat}(hd:Is d D)(d0:0<=D)(d1:D<=100000):fbF .sub d (fI r)=some ((fbF .sub d (fI r)).getD 0)/\∃v,Is (bX4 d (fI r)) v/\(v-(D-r).abs).abs<=1/1000:=by
 obtain⟨r1,r2⟩:=bI2 hr;obtain⟨z,Z,e,i,q⟩:=qD hd (bNo hr) (kL (aA.2 ⟨by grind,by grind⟩));have n:=q.le (B:=1000000) (aA.2 ⟨by grind,by grind⟩) (zW (by decide +kernel));have e6:eps<=1/1000000000:=by have:=bR;grind
 unfold bX4;rw[e];refine⟨rfl,Z.abs,kW i,?_⟩;have a1:=aL (Z-(D-r)) (D-r);have a2:=aL ((D-r)-Z) Z;rw[show Z-(D-r)+(D-r)=Z by grind]at a1;rw[show(D-r)-Z+Z=D-r by grind]at a2;have a3:((D-r)-Z).abs=(Z-(D-r)).abs:=by rw[show(D-r)-Z=-(Z-(D-r)) by grind,Rat.abs_neg]
 exact aA.2 ⟨by grind,by grind⟩
theorem bH6(a b:Int):∃H,Is (aR6 (Wn a-cx) (Wn b-cy)) H/\0<=H/\H<=100000/\∀(R:Type)(k:KNO R),aCc R (fI (Wn a-cx)) (fI (Wn b-cy)) k=k (aR6 (Wn a-cx) (Wn b-cy)):=by
 have h1:=yZ a;have h2:=yZ b;have h3:=hr.x;have h4:=hr.y;obtain⟨H,i,p,q,f⟩:=aYz (x:=Wn a-cx) (y:=Wn b-cy) (by omega) (by omega);refine⟨H,i,p,?_,f⟩;refine nX (by decide) ?_;have b1:=aA.1 q;have n1:(Wn a-cx)*(Wn a-cx)<=2000*2000:=by rw[<-Int.natAbs_mul_self];exact_mod_cast Nat.mul_le_mul (show(Wn a-cx).natAbs<=2000 by omega) (show(Wn a-cx).natAbs<=2000 by omega)
 have n2:(Wn b-cy)*(Wn b-cy)<=2000*2000:=by rw[<-Int.natAbs_mul_self];exact_mod_cast Nat.mul_le_mul (show(Wn b-cy).natAbs<=2000 by omega) (show(Wn b-cy).natAbs<=2000 by omega)
 have n3:(((Wn a-cx)*(Wn a-cx)+(Wn b-cy)*(Wn b-cy):Int):Rat)<=((8000000:Int):Rat):=Rat.intCast_le_intCast.2 (by omega);grind
theorem bJj{R:Type}(a b:Int)(bad:Option R)(go:KNN R):tmF jC aCc a b (fI cx) (fI cy) (fI r) bad go =
  bif gtF (aR6 (Wn a-cx) (Wn b-cy)) (bQt (fI r))&&ltF (aR6 (Wn a-cx) (Wn b-cy)) (bBy (fI r)) then bad else go (fI (Wn a)) (fI (Wn b)):=by
 obtain⟨H,i,p,q,f⟩:=bH6 hr a b;have h1:=yZ a;have h2:=yZ b;have h3:=hr.x;have h4:=hr.y;unfold tmF;rw[mU,mU,aK (aRh (by omega) (by omega)),aK (aRh (by omega) (by omega)),f,aK (bBz hr).1];cases gtF (aR6 (Wn a-cx) (Wn b-cy)) (bQt (fI r)) with
 |false=>rfl
 |true=>rw[T7,aK (aT6 hr).1];rfl
theorem bVz{R:Type}(a b:Int)(bad:Option R)(go:KNN R):tmG jC kO aCc a b (fI cx) (fI cy) (fI r) bad go =
  bif ltF (bX4 (aR6 (Wn a-cx) (Wn b-cy)) (fI r)) (t64 (fI r)) then bad else go (fI (Wn a)) (fI (Wn b)):=by
 obtain⟨H,i,p,q,f⟩:=bH6 hr a b;have h1:=yZ a;have h2:=yZ b;have h3:=hr.x;have h4:=hr.y;unfold tmG;rw[mU,mU,aK (aRh (by omega) (by omega)),aK (aRh (by omega) (by omega)),f,aK (aZ0 hr i p q).1,aN2,aK (bJi hr).1];rfl
def aNp:bP8:=λR cs off k=>match cs.drop off with
 |.int .i64 a::.int .i64 b::.int .i64 c::.int .i64 d::.int .i64 e::.int .i64 f::_=>k a b c d e f
 |_=>none
omit hr in
theorem bEq{P:Program}{t:TypeId}(h:tO P t 6):bJx P t (bZa aNp):=λR cs off k r hr=>by
 unfold bZa aNp at hr;split at hr;· rename_i a b c d e f rest hc;obtain⟨g1,g2⟩:=aJk (l:=bX9 a b c d e f) (r:=rest) hc (by show 0<6;decide);refine⟨_,hr,λR' k'=>?_⟩;rw[h];have g1':Nat.ble (off+6) cs.length=true:=g1;have g2':(cs.drop off).take 6=bX9 a b c d e f:=g2;rw[g1',g2'];rfl
 ·cases hr
omit hr in
theorem bT1:tO P9 97 6:=λR cs off k=>by kernel_rfl
theorem aUa{cs:List V9}{xs:List Six}(hx:aGe cs xs){k:Nat}{h:Six}(hk:xs[k]?=some h){R:Type}(bad:Option R)(go:Int->Nat->Nat->Nat->Nat->Nat->Option R):
  tmR aG aNp jC kO mdK aCc cs xs.length k (fI cx) (fI cy) (fI r) bad go=bif aG2 cx cy r (mB h) then bad else go (mB h).el.kind (mB h).el.a1 (mB h).el.a2 (mB h).el.s1 (mB h).el.s2 (mB h).el.p:=by
 obtain⟨rest,e⟩:=hx k h hk;have hkn:=(List.getElem?_eq_some_iff.1 hk).1;have hin:(decide (0<=(k:Int))&&decide ((k:Int)<xs.length)&&true)=true:=by rw[D7 (show(0:Int)<=(k:Int) by omega),D7 (show(k:Int)<xs.length by omega)];rfl
 have er:∀(R:Type)(K:Int->Int->Int->Int->Int->Int->Option R),aNp R cs (0+k*6) K=K h.kind h.x h.y h.s h.t h.p:=λR K=>by unfold aNp;rw[e];rfl
 have hp:=yZ h.p;have h4:=Int.tmod_lt_of_pos h.kind (show(0:Int)<4 by decide);have h5:=Int.lt_tmod_of_pos h.kind (show(0:Int)<4 by decide);unfold tmR;rw[hin,T7,er,mU,mU,mU,aN2,bHs (by omega),aI,aI,qH (by omega) (by omega),aI];rw[show(h.kind.tmod 4+4).tmod 4=xZ h.kind from rfl];unfold mB;cases k1:xZ h.kind==1 with
 |true=>simp only[T7];rw[bJj hr];unfold aG2;simp only[show((2:Int)==2||(2:Int)==3)=true from rfl,show((2:Int)==4)=false from rfl,Bool.true_and,Bool.false_and,Bool.or_false];rfl
 |false=>
  simp only[F7];cases k2:xZ h.kind==2 with
  |true=>simp only[T7];rw[cAc hp,aK (aS3 (by omega)),bJj hr];unfold aG2;simp only[show((3:Int)==2||(3:Int)==3)=true from rfl,show((3:Int)==4)=false from rfl,Bool.true_and,Bool.false_and,Bool.or_false];rfl
  |false=>
   simp only[F7];cases k3:xZ h.kind==3 with
   |true=>simp only[T7];rw[cAb hp,aK (aS3 (by omega)),bVz hr];unfold aG2;simp only[show((4:Int)==2||(4:Int)==3)=false from rfl,show((4:Int)==4)=true from rfl,Bool.true_and,Bool.false_and,Bool.false_or];rfl
   |false=>simp only[F7];unfold aG2;simp only[show((1:Int)==2||(1:Int)==3)=false from rfl,show((1:Int)==4)=false from rfl,Bool.false_and,Bool.or_false,F7];rfl
end
end Go.Vm
