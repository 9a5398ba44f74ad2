/- A part; no conditions. -/
import Derived.Test.YtaogignikkjkjaaGreatVmXU
set_option maxRecDepth 1000000
set_option maxHeartbeats 1000000
set_option linter.all false
open Go.Vx.Cp renaming of->C9,zero->Z9,one->O9,mul_assoc->M9,ext'->E9
open Rat renaming le_refl->R9
namespace Go.Vx
open Go.Vm Go.Proofs Ieee
def gV{cx cy r:Int}(S:jO (fI cx) (fI cy) (fI r))(h:Th):Bool:=(h.kind==2||h.kind==3)&&leF (S.lw h.el) (xU (fI r))
def aQf(h:Th):∀T:Type,Nat->Nat->(Nat->Nat->Int->Option T)->Option T:=λT z1 z2 K=>spdK T h.kind (fI h.x) (fI h.y) (fI h.s) (fI h.t) (fI h.p) z1 z2 K
inductive Dsc(R:Rat)(γ:Cp)(h:Th):Bool->Nat×Nat->Cp->Sd->Cp->Prop where
 |stream (k:h.kind=1):Dsc R γ h false (fI h.s,fI h.t) (gz h.s h.t) (.out (jU Z9 qB 0)) (gz h.s h.t)
 |srcI (c:Nat×Nat) (C:Cp) (k:h.kind=2) (hc:∀(T:Type)(K:KNN T),eQ T (fI h.s) (fI h.t) 4594902181429758083 K=K c.1 c.2) (iC:IsZ c.1 c.2 C) (lC:C=Z9\/Ng C (1/10)) (nC:Nm C 20000) (hγ:Nm γ (5075/10000)):Dsc R γ h true c C (.inn γ qB 1) (C*(C9 R⁻¹).pw 1)
 |srcO (c:Nat×Nat) (C:Cp) (k:h.kind=2) (hc:∀(T:Type)(K:KNN T),eQ T (fI h.s) (fI h.t) 4594902181429758083 K=K c.1 c.2) (iC:IsZ c.1 c.2 C) (lC:C=Z9\/Ng C (1/10)) (nC:Nm C 20000) (hγ:Ng γ (197058/100000)):Dsc R γ h false c C (.out (jU γ.inv qB 1)) (C*(C9 R⁻¹).pw 1*(-γ.inv).pw 1)
 |dblI (m:Nat) (k:h.kind=3) (m1:1<=m) (m8:m<=8) (hp:h.p=(m:Int)) (hγ:Nm γ (5075/10000)):Dsc R γ h true (fI h.s,fI h.t) (gz h.s h.t) (.inn γ qB (m+1)) (gz (h.s*-(m:Int)) (h.t*-(m:Int))*(C9 R⁻¹).pw (m+1))
 |dblO (m:Nat) (k:h.kind=3) (m1:1<=m) (m8:m<=8) (hp:h.p=(m:Int)) (hγ:Ng γ (197058/100000)):Dsc R γ h false (fI h.s,fI h.t) (gz h.s h.t) (.out (jU γ.inv qB (m+1))) (gz (h.s*-(m:Int)) (h.t*-(m:Int))*(C9 R⁻¹).pw (m+1)*(-γ.inv).pw (m+1))
 |cor (m:Nat) (k:h.kind=4) (m1:1<=m) (m4:m<=4) (hp:h.p=(m:Int)):Dsc R γ h false (fI h.s,fI h.t) (gz h.s h.t) (.out (pC γ (γ.re.abs+γ.im.abs+1/1000) (m-1))) (gz (h.s*(m:Int)) (h.t*(m:Int))*(C9 R).pw (m-1))
section
variable{cx cy r:Int}{hs:List Th}{n:Int}{S:jO (fI cx) (fI cy) (fI r)}
theorem aRj(g:Vm.Good S hs n){h:Th}(hm:h∈hs)(hk:h.kind=2\/h.kind=3){z w:Cp}(hz:Nm z lD)(hw:Nm w lD)(e:z*w=O9):Ng (z-gmm cx cy r h) (49/100):=by
 have one:=bWz hz hw e;have zlow:Ng z (999/1000):=by refine⟨by decide +kernel,?_⟩;have:=aA.1 one;grind
 have zhigh:Nm z (101/100):=hz.mono (by have:=uJ;grind);rcases bF2 g hm hk with ⟨_,a⟩|⟨_,a⟩;· have:=oG zlow a.neg (by decide +kernel);rw[<-Cp.sub_eq]at this;exact this.mono (by decide +kernel) (by decide +kernel)
 ·have:=oG (aZz a) zhigh (by decide +kernel);rw[show -gmm cx cy r h+z=z-gmm cx cy r h by rw[Cp.sub_eq,Cp.add_comm]]at this;exact this.mono (by decide +kernel) (by decide +kernel)
theorem aDb{a b:Int}(h1:a.natAbs<=8000)(h2:b.natAbs<=8000):Nm (gz a b) 20000:=(aI8 h1 h2).mono (by decide +kernel)
theorem aDe{a:Int}{m:Nat}(h:a.natAbs<=1000)(m8:m<=8):(a*-(m:Int)).natAbs<=8000/\(a*(m:Int)).natAbs<=8000:=by
 have e:(a*-(m:Int)).natAbs=a.natAbs*m:=by rw[Int.natAbs_mul,Int.natAbs_neg,Int.natAbs_natCast]
 have e2:(a*(m:Int)).natAbs=a.natAbs*m:=by rw[Int.natAbs_mul,Int.natAbs_natCast]
 have:=Nat.mul_le_mul h m8;omega
variable{N:Nat}{dK zK dM zM:Nat->Nat×Nat}{DK ZK DM ZM z w zm wm:Nat->Cp}
theorem bR3(g:Vm.Good S hs n)(hN:0<N){GM:Prop}(P:bQ1 GM (fI cx) (fI cy) (fI r) cx cy (r:Rat) N dK zK dM zM DK ZK DM ZM z w zm wm){h:Th}(hm:h∈hs):
  ∃c C s κ v vM V wM L,Dsc (r:Rat) (gmm cx cy r h) h (gV S h) c C s κ/\bJs (aQf h) N zK zM z w s κ v vM V wM L:=by
 obtain⟨R1,R2⟩:=bI3 g;have R2':(r:Rat)<=2000:=by grind
 have bc:=aCo g.c;have f:=g.fine h hm;have b:=f.xy;have E:=eld g hm;have pole:=λ(hk:h.kind=2\/h.kind=3)=>(⟨λk hk'=>aRj g hm hk (P.pz.at_ k hk') (P.pw.at_ k hk') (P.zw k hk'),λk hk'=>aRj g hm hk (P.mz k hk') (P.mw k hk') (P.zwm k hk')⟩:(∀k,k<N->Ng (z k-gmm cx cy r h) (49/100))/\(∀k,k<N->Ng (zm k-gmm cx cy r h) (49/100)))
 rcases aOw g hm with k|k|⟨k,m,m1,m8,hp⟩|⟨k,m,m1,m4,hp⟩
 ·have ib:gV S h=false:=by unfold gV;rw[k];rfl
  obtain⟨wM,L,d⟩:=aUy P.pz P.pw P.zw hN P.near R1 (spd:=aQf h) (zK:=zK) (zM:=zM) (aJc E.hs) aR2 (aDb (Nat.le_trans b.2.2.1 (by decide)) (Nat.le_trans b.2.2.2 (by decide))) (λi hi T K=>by
   unfold aQf;rw[k]at E⊢;exact aLd (P.K i hi) bc.1 bc.2 R1 R2' E T K) (λi hi T K=>by
   unfold aQf;rw[k]at E⊢;exact aLd (P.M i hi) bc.1 bc.2 R1 R2' E T K)
  rw[ib];exact⟨_,_,_,_,_,_,_,wM,L,.stream k,d⟩
 ·obtain⟨far1,far2⟩:=pole (.inl k);obtain⟨c1,c2,C,hc,iC,lC,nC,_⟩:=aM9 E.hs b.2.2.1 b.2.2.2 cFs (by rw[bKi];decide +kernel) (by have:=bRh;grind);have lC':C=Z9\/Ng C (1/10):=by
   by_cases h0:C=Z9;· exact .inl h0
   ·exact .inr (lC h0)
  obtain⟨v,vM,V,wM,L,d1,d2⟩:=aRf P.pz P.pw P.zw hN P.near R1 (spd:=aQf h) (zK:=zK) (zM:=zM) (γ:=gmm cx cy r h) (C:=C) (m:=1) (by decide) (by decide) lC' nC (λi hi=>by
   unfold aQf;rw[k]at E⊢;exact aG1 (P.K i hi) bc.1 bc.2 R1 R2' (P.eK i) rfl hc iC lC nC E (far1 i hi)) (λi hi=>by
   unfold aQf;rw[k]at E⊢;exact aG1 (P.M i hi) bc.1 bc.2 R1 R2' (P.eM i) rfl hc iC lC nC E (far2 i hi))
  rcases bF2 g hm (.inl k) with ⟨q1,q2⟩|⟨q1,q2⟩
  ·have ib:gV S h=true:=by unfold gV;rw[k,q1];rfl
   rw[ib];exact⟨_,_,_,_,v,vM,V,wM,L,.srcI (c1,c2) C k hc iC lC' nC q2,d1 q2⟩
  ·have ib:gV S h=false:=by unfold gV;rw[k,q1];rfl
   rw[ib];exact⟨_,_,_,_,v,vM,V,wM,L,.srcO (c1,c2) C k hc iC lC' nC q2,d2 q2⟩
 ·obtain⟨far1,far2⟩:=pole (.inr k);have wm':fI h.p=wrd m:=by rw[hp];exact aXy m m1 m8
  have B1:=aDe b.2.2.1 m8;have B2:=aDe b.2.2.2 m8;obtain⟨v,vM,V,wM,L,d1,d2⟩:=aRf P.pz P.pw P.zw hN P.near R1 (spd:=aQf h) (zK:=zK) (zM:=zM) (γ:=gmm cx cy r h) (C:=gz (h.s*-(m:Int)) (h.t*-(m:Int))) (m:=m+1) (by omega) (by omega) aR2 (aDb B1.1 B2.1) (λi hi=>by
   unfold aQf;rw[k,wm']at E⊢;exact aDv (P.K i hi) bc.1 bc.2 R1 R2' (P.eK i) rfl m1 m8 E (far1 i hi)) (λi hi=>by
   unfold aQf;rw[k,wm']at E⊢;exact aDv (P.M i hi) bc.1 bc.2 R1 R2' (P.eM i) rfl m1 m8 E (far2 i hi))
  rcases bF2 g hm (.inr k) with ⟨q1,q2⟩|⟨q1,q2⟩
  ·have ib:gV S h=true:=by unfold gV;rw[k,q1];rfl
   rw[ib];exact⟨_,_,_,_,v,vM,V,wM,L,.dblI m k m1 m8 hp q2,d1 q2⟩
  ·have ib:gV S h=false:=by unfold gV;rw[k,q1];rfl
   rw[ib];exact⟨_,_,_,_,v,vM,V,wM,L,.dblO m k m1 m8 hp q2,d2 q2⟩
 ·have kn:h.kind≠1:=by rw[k];decide
  have wm':fI h.p=wrd m:=by rw[hp];exact aXy m m1 (by omega)
  have B1:=aDe b.2.2.1 (show m<=8 by omega);have B2:=aDe b.2.2.2 (show m<=8 by omega);have ib:gV S h=false:=by unfold gV;rw[k];rfl
  obtain⟨v,vM,V,wM,L,d1⟩:=aUx P.pz P.pw P.zw hN P.near R1 (spd:=aQf h) (zK:=zK) (zM:=zM) (γ:=gmm cx cy r h) (C:=gz (h.s*(m:Int)) (h.t*(m:Int))) (m:=m-1) (by omega) aR2 (aDb B1.2 B2.2) (λi hi=>by
   unfold aQf;rw[k,wm']at E⊢;exact aG0 (P.K i hi) bc.1 bc.2 R1 R2' (P.eK i) rfl m1 m4 E (bHu g hm kn (P.pz.at_ i hi) (P.pw.at_ i hi) (P.zw i hi))) (λi hi=>by
   unfold aQf;rw[k,wm']at E⊢;exact aG0 (P.M i hi) bc.1 bc.2 R1 R2' (P.eM i) rfl m1 m4 E (bHu g hm kn (P.mz i hi) (P.mw i hi) (P.zwm i hi)))
  rw[ib];exact⟨_,_,_,_,v,vM,V,wM,L,.cor m k m1 m4 hp,d1⟩
end
def Hn(hs:List Th)(i:Nat):Th:=hs.getD i ⟨0,0,0,0,0,0⟩
theorem aK1{hs:List Th}{i:Nat}(hi:i<hs.length):hs[i]?=some (Hn hs i):=by unfold Hn;rw[List.getD_eq_getElem?_getD,List.getElem?_eq_getElem hi];rfl
theorem oJ{hs:List Th}{i:Nat}(hi:i<hs.length):Hn hs i∈hs:=List.mem_of_getElem? (aK1 hi)
theorem aSz{hs:List Th}{i:Nat}(hi:i<hs.length):rG (els hs) i=(Hn hs i).el:=by unfold rG els;rw[List.getD_eq_getElem?_getD,List.getElem?_map,aK1 hi];rfl
theorem bC3{a b:Nat}{Z:Cp}(h:IsZ a b Z)(n:Nm Z 10000)(R:Type)(k:KIO R):Go.Vm.bNm R a b k=k 0:=by show jQ R a b 4787326403894837248 _=_;unfold jQ yD;rw[rS h.1 (cR n.re (by grind)),aJ];simp only;rw[rS h.2 (cR n.im (by grind)),aJ,aJ]
structure Dat(GM:Prop){cx cy r:Int}(S:jO (fI cx) (fI cy) (fI r))(hs:List Th)(n:Nat)(dK zK dM zM:Nat->Nat×Nat)(DK ZK DM ZM z w zm wm:Nat->Cp)(c:Th->Nat×Nat)(C:Th->Cp)(s:Th->Sd)(κ:Th->Cp)(v vM:Th->Nat->Nat×Nat)(V:Th->Nat->Cp)(wM:Th->Nat->Nat)(L:Th->Nat->Rat):Prop where
 good:Vm.Good S hs (n:Int)
 P:bQ1 GM (fI cx) (fI cy) (fI r) cx cy (r:Rat) n dK zK dM zM DK ZK DM ZM z w zm wm
 D:∀h∈hs,Dsc (r:Rat) (gmm cx cy r h) h (gV S h) (c h) (C h) (s h) (κ h)
 E:∀h∈hs,bJs (aQf h) n zK zM z w (s h) (κ h) (v h) (vM h) (V h) (wM h) (L h)
theorem bFj{α β:Type}[Inhabited β]{l:List α}{p:α->β->Prop}(h:∀a,a∈l->∃x,p a x):∃f:α->β,∀a,a∈l->p a (f a):=by
 have:=Classical.axiomOfChoice (r:=λa x=>a∈l->p a x) λa=>by
  by_cases ha:a∈l;· obtain⟨x,hx⟩:=h a ha;exact⟨x,λ_=>hx⟩
  ·exact⟨default,λh=>absurd h ha⟩
 exact this
instance:Inhabited Sd:=⟨.out []⟩
section
variable{GM:Prop}{cx cy r:Int}{S:jO (fI cx) (fI cy) (fI r)}{hs:List Th}{n:Nat}{dK zK dM zM:Nat->Nat×Nat}{DK ZK DM ZM z w zm wm:Nat->Cp}{c:Th->Nat×Nat}{C:Th->Cp}{s:Th->Sd}{κ:Th->Cp}{v vM:Th->Nat->Nat×Nat}{V:Th->Nat->Cp}{wM:Th->Nat->Nat}{L:Th->Nat->Rat}(T:Dat GM S hs n dK zK dM zM DK ZK DM ZM z w zm wm c C s κ v vM V wM L)
def lH(hs:List Th)(L:Th->Nat->Rat)(i k:Nat):Rat:=1017/1000*L (Hn hs i) k
def slH(hs:List Th)(L:Th->Nat->Rat)(k:Nat):Rat:=rsm (λi=>lH hs L i k) hs.length
def mH(hs:List Th)(L:Th->Nat->Rat)(n i:Nat):Rat:=rsm (λk=>lH hs L i k) n/(n:Rat)
include T
theorem bM1:128<=n/\n<=512:=by have:=T.good.n1;have:=T.good.n2;omega
theorem bCx{i:Nat}(hi:i<hs.length):aNx (s (Hn hs i))/\Elw n z w (s (Hn hs i)) (κ (Hn hs i)) (V (Hn hs i)) (lH hs L i) (mH hs L n i):=⟨(T.E _ (oJ hi)).side,(T.E _ (oJ hi)).elw⟩
theorem aSh{i k:Nat}(hi:i<hs.length)(hk:k<n):0<=lH hs L i k/\lH hs L i k<=203400000000000000/\aV7 (lH hs L i k):=by have e:=T.E _ (oJ hi);have a:=e.L0 k hk;have b:=e.Lb k hk;exact⟨bU (by decide +kernel) a,by unfold lH;grind,kB (by decide +kernel) a (e.fL k hk)⟩
theorem lE{k:Nat}(hk:k<n):0<=slH hs L k/\slH hs L k<=1220400000000000000/\aV7 (slH hs L k):=by
 have f:=λi (hi:i<hs.length)=>aSh T hi hk
 refine⟨eZ λi hi=>(f i hi).1,?_,wD λi hi=>⟨(f i hi).1,(f i hi).2.2⟩⟩;have:=pP (f:=λi=>lH hs L i k) (g:=λ_=>203400000000000000) λi hi=>(f i hi).2.1
 rw[kC]at this;have n6:(hs.length:Rat)<=6:=by exact_mod_cast T.good.len6
 have:=cG n6 (show(0:Rat)<=203400000000000000 by decide);unfold slH;grind
theorem aTz{k:Nat}(hk:k<n):∃(x:Nat×Nat)(W:Cp),bJz (els hs) (zK k).1 (zK k).2 x.1 x.2/\IsZ x.1 x.2 W/\Nm (W-csm (λi=>V (Hn hs i) k) hs.length) (6*eps*slH hs L k)/\Nm W (1001/1000*slH hs L k):=by
 have f:=λi (hi:i<hs.length)=>aSh T hi hk
 have q:=lE T hk;obtain⟨g,W,g0,g1,g2,iW,d,b⟩:=bOi (N:=hs.length) (v:=λi=>v (Hn hs i) k) (V:=λi=>V (Hn hs i) k) (l:=λi=>lH hs L i k) T.good.len6 (λi hi=>(T.E _ (oJ hi)).iV k hk) (λi hi=>(T.E _ (oJ hi)).elw.len k hk) (λi hi=>(f i hi).2.2) (by show 2*slH hs L k<=_;rw[bZ];grind);have l0:=T.good.len0;have e:=jZ hs;rw[<-e]at g1 g2 iW;refine⟨_,W,bN5 (v:=λi=>v (Hn hs i) k) (by rw[e];exact l0) (λi hi R K=>?_) (g1 (by rw[e];exact l0)) g2 iW,iW,d,b⟩;rw[e]at hi;rw[aSz hi];exact(T.E _ (oJ hi)).spdK k hk R K
theorem bHj{k:Nat}(hk:k<n){x:Nat×Nat}(h:bJz (els hs) (zK k).1 (zK k).2 x.1 x.2):aD Tryz.prog 61 [cW 0 (els hs).length (els hs).length,.complex .f64 (zK k).1 (zK k).2] ⟨1,[(0,.cells (cellsOf (els hs)) 4)]⟩ (.tuple ⟨[.complex .f64 x.1 x.2,.int .i64 0]⟩):=by
 have e:=jZ hs;have l0:=T.good.len0;have l6:=T.good.len6;exact aQh (by omega) (by omega) (λX hX R K=>by unfold els at hX;obtain⟨h,h1,rfl⟩:=List.mem_map.1 hX;rw[zO (T.good.fine h h1) R K,T.good.chk h h1]) (λR K=>bC3 (T.P.K k hk).iZ (T.P.K k hk).nZ R K) h
theorem bRi:aD Tryz.prog 85 [cW 0 (els hs).length (els hs).length,ciV (fI cx) (fI cy) (fI r)] ⟨1,[(0,.cells (cellsOf (els hs)) 4)]⟩ (.int .i64 0):=by have e:=jZ hs;have l6:=T.good.len6;have gr2:=T.good.r2;refine aGz (cL _).2.1 (aLl (by omega) λX hX R K=>?_) (aOm T.good.c T.good.r1 (by omega));unfold els at hX;obtain⟨h,h1,rfl⟩:=List.mem_map.1 hX;rw[zO (T.good.fine h h1) R K,T.good.chk h h1]
theorem bH3{k:Nat}(hk:k<n)(R:Type)(K:Nat->Nat->Nat->Nat->Option R):bH2 (fI r) (fI cx) (fI cy) n k K=K (dK k).1 (dK k).2 (zK k).1 (zK k).2:=by
 have a:=T.P.goK k hk R λd1 d2=>jJ R (fI cx) (fI cy) d1 d2 λz1 z2=>K d1 d2 z1 z2
 rw[(T.P.K k hk).add]at a;exact a
end
section
variable{GM:Prop}{cx cy r:Int}{S:jO (fI cx) (fI cy) (fI r)}{hs:List Th}{n:Nat}{dK zK dM zM:Nat->Nat×Nat}{DK ZK DM ZM z w zm wm:Nat->Cp}{c:Th->Nat×Nat}{C:Th->Cp}{s:Th->Sd}{κ:Th->Cp}{v vM:Th->Nat->Nat×Nat}{V:Th->Nat->Cp}{wM:Th->Nat->Nat}{L:Th->Nat->Rat}(T:Dat GM S hs n dK zK dM zM DK ZK DM ZM z w zm wm c C s κ v vM V wM L)
def MH(hs:List Th)(L:Th->Nat->Rat)(n:Nat):Rat:=rsm (mH hs L n) hs.length
def UH(hs:List Th)(L:Th->Nat->Rat)(n:Nat):Rat:=rsm (λk=>slH hs L k*slH hs L k) n/(n:Rat)
def G2(hs:List Th)(s:Th->Sd)(κ:Th->Cp):Cp:=csm (λi=>csm (λj=>κ (Hn hs i)*κ (Hn hs j)*(s (Hn hs i)).pairG (s (Hn hs j))) hs.length) hs.length
include T
theorem aC0:0<n:=by have:=bM1 T;omega
theorem bJd:rsm (slH hs L) n=(n:Rat)*MH hs L n:=bCf (V:=λi=>V (Hn hs i)) (s:=λi=>s (Hn hs i)) (κ:=λi=>κ (Hn hs i)) T.P.pz T.P.pw T.P.zw (aC0 T) (λi hi=>(bCx T hi).1) (λi hi=>(bCx T hi).2)
theorem aK2:rsm (λk=>slH hs L k*slH hs L k) n=(n:Rat)*UH hs L n:=yQ (aC0 T)
theorem cCr:MH hs L n*MH hs L n<=UH hs L n:=aZq (aC0 T) (bJd T) (aK2 T)
theorem nR:(128:Rat)<=(n:Rat)/\(n:Rat)<=512:=by have:=bM1 T;exact⟨by exact_mod_cast this.1,by exact_mod_cast this.2⟩
theorem aOq{p x:Rat}{n:Nat}(h:(128:Rat)<=(n:Rat)/\(n:Rat)<=512)(p0:0<p)(h0:(n:Rat)*x=0\/p<=(n:Rat)*x):x=0\/p/512<=x:=by
 rcases h0 with h0|h0
 ·left;rcases Rat.mul_eq_zero.1 h0 with a|a
  ·grind
  ·exact a
 ·right;refine Rat.not_lt.1 λhl=>?_
  have a:=Rat.mul_lt_mul_of_pos_left hl (show 0<(n:Rat) by grind);have b:=cG h.2 (show 0<=p/512 by grind);grind
theorem tI:0<=MH hs L n/\MH hs L n<=1220400000000000000/\(MH hs L n=0\/(2:Rat)^(-200:Int)<=MH hs L n):=by
 have h:=bJd T;have hn:=nR T;have f:=λk (hk:k<n)=>lE T hk
 have x0:0<=(n:Rat)*MH hs L n:=by rw[<-h];exact eZ λk hk=>(f k hk).1
 have x1:(n:Rat)*MH hs L n<=(n:Rat)*1220400000000000000:=by rw[<-h,<-kC];exact pP λk hk=>(f k hk).2.1
 have x2:(n:Rat)*MH hs L n=0\/(2:Rat)^(-180:Int)<=(n:Rat)*MH hs L n:=by rw[<-h];exact wD λk hk=>⟨(f k hk).1,(f k hk).2.2⟩
 refine⟨Rat.not_lt.1 λhl=>?_,Rat.not_lt.1 λhl=>?_,?_⟩;· have:=Rat.mul_lt_mul_of_pos_left hl (show 0<(n:Rat) by grind);grind
 ·have:=Rat.mul_lt_mul_of_pos_left hl (show 0<(n:Rat) by grind);grind
 ·rcases aOq T hn (bG _) x2 with a|a
  ·exact .inl a
  ·right;refine cR ?_ a;have e:(2:Rat)^(-180:Int)=(2:Rat)^(-200:Int)*(2:Rat)^(20:Int):=by rw[<-bO];rfl
   rw[e,show(2:Rat)^(20:Int)=1048576 by rw[show(20:Int)=((20:Nat):Int) by rfl,cN];rfl];have:=bG (-200);generalize (2:Rat)^(-200:Int)=q at *
   grind
theorem aA2:0<=UH hs L n/\UH hs L n<=1500000000000000000000000000000000000/\(UH hs L n=0\/(2:Rat)^(-390:Int)<=UH hs L n):=by
 have h:=aK2 T;have hn:=nR T;have f:=λk (hk:k<n)=>lE T hk
 have x0:0<=(n:Rat)*UH hs L n:=by rw[<-h];exact eZ λk hk=>bU (f k hk).1 (f k hk).1
 have x1:(n:Rat)*UH hs L n<=(n:Rat)*1500000000000000000000000000000000000:=by
  rw[<-h,<-kC];exact pP λk hk=>by have:=aC (f k hk).2.1 (f k hk).2.1 (f k hk).1 (by decide);exact cR this (by decide +kernel)
 have x2:(n:Rat)*UH hs L n=0\/(2:Rat)^(-380:Int)<=(n:Rat)*UH hs L n:=by rw[<-h];exact wD λk hk=>⟨bU (f k hk).1 (f k hk).1,aI0 (f k hk).2.2 (f k hk).2.2⟩
 refine⟨Rat.not_lt.1 λhl=>?_,Rat.not_lt.1 λhl=>?_,?_⟩;· have:=Rat.mul_lt_mul_of_pos_left hl (show 0<(n:Rat) by grind);grind
 ·have:=Rat.mul_lt_mul_of_pos_left hl (show 0<(n:Rat) by grind);grind
 ·rcases aOq T hn (bG _) x2 with a|a
  ·exact .inl a
  ·right;refine cR ?_ a;have e:(2:Rat)^(-380:Int)=(2:Rat)^(-390:Int)*(2:Rat)^(10:Int):=by rw[<-bO];rfl
   rw[e,show(2:Rat)^(10:Int)=1024 by rw[show(10:Int)=((10:Nat):Int) by rfl,cN];rfl];have:=bG (-390);generalize (2:Rat)^(-390:Int)=q at *
   grind
theorem Rq:(1:Rat)<=(r:Rat)/\(r:Rat)<=2000:=by have:=bI3 T.good;grind
theorem cCp{k:Nat}:DK k=C9 (r:Rat)*z k:=by have R1:=(Rq T).1;rw[T.P.eK,<-M9,<-Cp.of_mul_of,Rat.mul_inv_cancel _ (show(r:Rat)≠0 by grind)];exact(Cp.one_mul _).symm
theorem bBq:∃a b A,aD Tryz.prog 13 [cW 0 (els hs).length (els hs).length,ciV (fI cx) (fI cy) (fI r),.int .i64 n] ⟨1,[(0,.cells (cellsOf (els hs)) 4)]⟩ (reV a b 0)/\IsZ a b A/\
  Nm (A-C9 eJ*(Cp.I*(C9 (r:Rat)*G2 hs s κ))) (eJ*((r:Rat)*UH hs L n)*(2502/10000000000)):=by
 have et:=bR;have ep:=bI;obtain⟨R1,R2⟩:=Rq T;obtain⟨n1,n2⟩:=bM1 T;have hn:=aC0 T;have U0:=(aA2 T).1;obtain⟨f,hf⟩:=pick (α:=(Nat×Nat)×Cp×(Nat×Nat)×Cp) (n:=n) (p:=λk x=>bJz (els hs) (zK k).1 (zK k).2 x.1.1 x.1.2/\IsZ x.1.1 x.1.2 x.2.1/\Nm (x.2.1-csm (λi=>V (Hn hs i) k) hs.length) (6*eps*slH hs L k)/\Nm x.2.1 (1001/1000*slH hs L k)/\
   IsZ x.2.2.1.1 x.2.2.1.2 x.2.2.2/\Nm (x.2.2.2-x.2.1*x.2.1) (eps*(1001/1000*slH hs L k*(1001/1000*slH hs L k)))/\Nm x.2.2.2 (1003/1000*(slH hs L k*slH hs L k))/\∀(R:Type)(K:KNN R),dV R x.1.1 x.1.2 x.1.1 x.1.2 K=K x.2.2.1.1 x.2.2.1.2) (λk hk=>by
  obtain⟨x,W,h1,h2,h3,h4⟩:=aTz T hk;have sf:=lE T hk;have fit:=aI1 (kB (c:=1001/1000) (by decide +kernel) sf.1 sf.2.2);have sq:=aC sf.2.1 sf.2.1 sf.1 (by decide);have sq0:=bU sf.1 sf.1;obtain⟨p,q,P,iP,dP,hP⟩:=mY h2 h2 h4 h4 (by
   have e:16*(1001/1000*slH hs L k*(1001/1000*slH hs L k))+1=16*(1001/1000*(1001/1000))*(slH hs L k*slH hs L k)+1:=by grind
   rw[e,bZ];generalize slH hs L k*slH hs L k=X at *
   grind) fit fit
  refine⟨(x,W,(p,q),P),h1,h2,h3,h4,iP,dP,(dP.near (h4.mul h4)).mono ?_,hP⟩;have e:=cG et sq0;generalize slH hs L k=X at *
  grind)
 have hm:rsm (λk=>1003/1000*(slH hs L k*slH hs L k)) n=(n:Rat)*(1003/1000*UH hs L n):=by rw[jD,aK2 T];grind
 obtain⟨q,g,a,b,A,hq,g0,g1,g2,hl,iA,τ,ht,t0,dA⟩:=aFj (u:=λk=>(f k).2.2.1) (d:=dK) (U:=λk=>(f k).2.2.2) (D:=DK) (z:=z) (ρ:=λk=>1003/1000*(slH hs L k*slH hs L k)) (R:=(r:Rat)) (m:=1003/1000*UH hs L n) n1 n2
  (λk hk=>(hf k hk).2.2.2.2.1) (λk hk=>(T.P.K k hk).iD) (λk hk=>(hf k hk).2.2.2.2.2.2.1) (λk hk=>kB (by decide +kernel) (bU (lE T hk).1 (lE T hk).1) (aI0 (lE T hk).2.2 (lE T hk).2.2)) (λk hk=>by have sf:=lE T hk;have:=aC sf.2.1 sf.2.1 sf.1 (by decide);grind) (λk hk=>(T.P.K k hk).nD) R1 R2 hm (λk hk=>cCp T)
 have hab:Abt (cellsOf (els hs)) 4 (els hs).length (els hs).length (fI cx) (fI cy) (fI r) n dK zK (λk=>(f k).1) q:=⟨λk hk R K=>bH3 T hk R K,λk hk=>bHj T hk (hf k hk).1,λk hk R K=>by show dV R (f k).1.1 (f k).1.2 (f k).1.1 (f k).1.2 (λu1 u2=>jV R (dK k).1 (dK k).2 λt1 t2=>dV R u1 u2 t1 t2 K)=_;rw[(hf k hk).2.2.2.2.2.2.2];exact hq k hk R K⟩;have hc:=ab_call (sz:=4) (cL (els hs)).2.1 hab (by omega) (by omega) (bRi T) (aFv g0 g1 g2) (x:=(g n).1) (y:=(g n).2) rfl hl;refine⟨a,b,A,aQk (cL (els hs)).2.1 hc,iA,?_⟩;have hi:=aT0 (f:=z) (P:=λi j=>(s (Hn hs i)).pairG (s (Hn hs j))) (E:=EE) (s:=λi=>s (Hn hs i)) (κ:=λi=>κ (Hn hs i)) (V:=λi=>V (Hn hs i)) (l:=lH hs L) (m:=mH hs L n) (N:=hs.length) (S:=λk=>(f k).2.1) (Q:=λk=>(f k).2.2.2) (U:=UH hs L n) T.P.pz T.P.pw T.P.zw hn (λi hi=>(bCx T hi).1) (λi hi=>(bCx T hi).2) (λk hk=>(T.P.pz.at_ k hk).mono (by have:=uJ;grind)) aGv (by unfold EE;decide +kernel) (λi hi j hj=>aS8 T.P.pz T.P.pw T.P.zw hn (bCx T hi).1.ok (bCx T hj).1.ok) (λk hk=>(hf k hk).2.2.1) (λk hk=>(hf k hk).2.2.2.1) (λk hk=>(hf k hk).2.2.2.2.2.1) (aK2 T);have k:=aVu (c:=2501/10000000000) (M:=UH hs L n) (d:=526*eps) R1 ht t0 (dA.mono (by have x0:=bU (show 0<=eJ by have:=aCj;grind) (bU (show 0<=(r:Rat) by grind) U0);have x1:=bU x0 (bN ep);grind)) hi;refine k.mono (dI (by grind) (bU (by have:=aCj;grind) (bU (by grind) U0)))
end
theorem bBo{x σ θ e:Rat}(x0:0<=x)(e0:0<e)(e1:e<=1/1000000000000000)(h:(σ-x).abs<=6*e*x)(g:(θ-σ*σ).abs<=e/4*(σ*σ)):0<=σ/\(1-20*e)*(x*x)<=θ/\θ<=2*(x*x)/\0<=θ:=by
 have a:=aA.1 h;have b:=aA.1 g;have ex:=cG e1 x0;have s0:0<=σ:=by grind
 have xx:=bU x0 x0;have exx:=bU (bN e0) xx;have eexx:=cG e1 xx;have lo:(1-6*e)*x<=σ:=by grind
 have hi:σ<=(1+6*e)*x:=by grind
 have l0:0<=(1-6*e)*x:=bU (by grind) x0;have s1:=aC lo lo l0 s0;have s2:=aC hi hi s0 (by grind);have q1:(1-13*e)*(x*x)<=σ*σ:=by
  have:(1-6*e)*x*((1-6*e)*x)=(1-12*e)*(x*x)+36*(e*(e*(x*x))):=by grind
  have:=bU (bN e0) exx;grind
 have q2:σ*σ<=3/2*(x*x):=by have:=cG e1 exx;grind
 have eq2:=dI q2 (bN e0);have s3:=bU s0 s0;have es3:=cG e1 s3;refine⟨s0,?_,?_,?_⟩<;>grind
section
variable{cx cy r:Int}{S:jO (fI cx) (fI cy) (fI r)}{hs:List Th}{n:Nat}{dK zK dM zM:Nat->Nat×Nat}{DK ZK DM ZM z w zm wm:Nat->Cp}{c:Th->Nat×Nat}{C:Th->Cp}{s:Th->Sd}{κ:Th->Cp}{v vM:Th->Nat->Nat×Nat}{V:Th->Nat->Cp}{wM:Th->Nat->Nat}{L:Th->Nat->Rat}(T:Dat (GoM (fI r) n dM) S hs n dK zK dM zM DK ZK DM ZM z w zm wm c C s κ v vM V wM L)
def xH(hs:List Th)(L:Th->Nat->Rat)(k:Nat):Rat:=rsm (λi=>L (Hn hs i) k) hs.length
theorem cGn(k:Nat):slH hs L k=1017/1000*xH hs L k:=by unfold slH xH lH;rw[jD]
include T
end
open Go.Vm Ieee
theorem ac4(a b c d:Cp):a*b*(c*d)=a*c*(b*d):=by simp only[M9,Cp.mul_left_comm]
def cfG(g:Nat->Nat):Nat->Nat
 |0=>0
 |q+1=>g (q+1)+cfG g q
def cf:Nat->Nat->Nat
 |0,q=>if q=1 then 1 else 0
 |r+1,q=>cfG (cf r) q
def cl:Nat->Nat->Nat
 |0,q=>if q=1 then 1 else 0
 |k+1,0=>0
 |k+1,q+1=>cl k q+cl k (q+1)
theorem bKq(k:Nat):cl k 0=0:=by cases k<;>rfl
theorem aHj(m n:Nat):C9 (((m+n:Nat)):Rat)=C9 (m:Rat)+C9 (n:Rat):=by push_cast;exact Cp.of_add _ _
theorem aH4{b be:Cp}{p:Rat}:∀r q,Fv b (jU be p r) (q+1)=C9 (cf r (q+1):Rat)*(be.pw q*(O9-b*be).inv.pw (q+r))
 |0,0=>by show O9=C9 ((1:Nat):Rat)*(O9*O9);rw[Cp.mul_one,Cp.mul_one];rfl
 |0,q+1=>by show Z9=C9 ((0:Nat):Rat)*_;rw[show C9 ((0:Nat):Rat)=Z9 from rfl,Cp.zero_mul]
 |r+1,0=>by show(Fv b (jU be p r) 1+be*Z9)*(O9-b*be).inv=C9 ((cf r 1+0:Nat):Rat)*(O9*((O9-b*be).inv.pw (0+r)*(O9-b*be).inv));rw[aH4 r 0,Cp.mul_zero,Cp.add_zero];show C9 (cf r 1:Rat)*(O9*_)*_=_;rw[Cp.one_mul,Cp.one_mul,M9];rfl
 |r+1,q+1=>by
  show(Fv b (jU be p r) (q+2)+be*Fv b (jU be p (r+1)) (q+1))*(O9-b*be).inv=C9 ((cf r (q+2)+cf (r+1) (q+1):Nat):Rat)*(be.pw q*be*((O9-b*be).inv.pw (q+1+r)*(O9-b*be).inv));rw[aH4 r (q+1),aH4 (r+1) q,aHj,show q+(r+1)=q+1+r by omega];generalize (O9-b*be).inv.pw (q+1+r)=X;show(C9 (cf r (q+2):Rat)*(be.pw q*be*X)+be*(C9 (cf (r+1) (q+1):Rat)*(be.pw q*X)))*(O9-b*be).inv=_;generalize (O9-b*be).inv=Y;generalize be.pw q=Z;generalize C9 (cf r (q+2):Rat)=u;generalize C9 (cf (r+1) (q+1):Rat)=w;rw[Cp.add_mul,Cp.add_mul];congr 1;· simp only[M9]
  ·simp only[M9,Cp.mul_left_comm,Cp.mul_comm]
theorem aNs{b a:Cp}{p:Rat}:∀k q,q<=k->Fv b (pC a p k) (q+1)=C9 (cl k (q+1):Rat)*(b-a).pw (k-q)
 |0,0,_=>by show O9=C9 ((1:Nat):Rat)*O9;rw[Cp.mul_one];rfl
 |k+1,q,h=>by
  show Fv b (pC a p k) q+(b-a)*Fv b (pC a p k) (q+1)=C9 ((cl k q+cl k (q+1):Nat):Rat)*(b-a).pw (k+1-q);rw[aHj,Cp.add_mul];have a1:Fv b (pC a p k) q=C9 (cl k q:Rat)*(b-a).pw (k+1-q):=by
   cases q with
   |zero=>rw[aNt,bKq];show _=Z9*_;rw[Cp.zero_mul]
   |succ q=>rw[aNs k q (by omega),show k+1-(q+1)=k-q by omega]
  have a2:(b-a)*Fv b (pC a p k) (q+1)=C9 (cl k (q+1):Rat)*(b-a).pw (k+1-q):=by
   rcases Nat.lt_or_ge k q with hq|hq
   ·have e:q=k+1:=by omega
    subst e;rw[Fv_lins_big k (k+1) (by omega),cl_big k (k+1) (by omega),Cp.mul_zero];show _=Z9*_;rw[Cp.zero_mul]
   ·rw[aNs k q hq,show k+1-q=(k-q)+1 by omega];show(b-a)*(C9 (cl k (q+1):Rat)*(b-a).pw (k-q))=C9 (cl k (q+1):Rat)*((b-a).pw (k-q)*(b-a));simp only[M9,Cp.mul_left_comm,Cp.mul_comm]
  rw[a1,a2]
 where
 cl_big:∀k q,k<q->cl k (q+1)=0
  |0,q+1,_=>rfl
  |k+1,q,h=>by
   show cl k q+cl k (q+1)=0;obtain⟨q',rfl⟩:∃q',q=q'+1:=⟨q-1,by omega⟩;rw[cl_big k q' (by omega),cl_big k (q'+1) (by omega)]
 Fv_lins_big:∀k q,k<q->Fv b (pC a p k) (q+1)=Z9
  |0,q+1,_=>rfl
  |k+1,q,h=>by show Fv b (pC a p k) q+(b-a)*Fv b (pC a p k) (q+1)=Z9;obtain⟨q',rfl⟩:∃q',q=q'+1:=⟨q-1,by omega⟩;rw[Fv_lins_big k q' (by omega),Fv_lins_big k (q'+1) (by omega),Cp.mul_zero,Cp.add_zero]
theorem aWi{b a:Cp}{p:Rat}:∀k q,k<q->Fv b (pC a p k) (q+1)=Z9
  |0,q+1,_=>rfl
  |k+1,q,h=>by show Fv b (pC a p k) q+(b-a)*Fv b (pC a p k) (q+1)=Z9;obtain⟨q',rfl⟩:∃q',q=q'+1:=⟨q-1,by omega⟩;rw[aWi k q' (by omega),aWi k (q'+1) (by omega),Cp.mul_zero,Cp.add_zero]
theorem aBs{a b:Cp}(h:a*b=O9):∀n,a.pw n*b.pw n=O9:=λn=>by rw[<-Cp.pw_mul,h,Cp.pw_unit]
theorem bAt(a:Cp):∀n,(-a).pw n=C9 ((-1)^n)*a.pw n
 |0=>by show O9=C9 ((-1:Rat)^0)*O9;rw[Rat.pow_zero,Cp.mul_one];rfl
 |n+1=>by
  show(-a).pw n*-a=C9 ((-1:Rat)^(n+1))*(a.pw n*a);rw[bAt a n,Rat.pow_succ,Cp.of_mul_of];generalize C9 ((-1:Rat)^n)=u;generalize a.pw n=X;refine E9 ?_ ?_;· simp only[Cp.mul_re,Cp.mul_im,Cp.neg_re,Cp.neg_im,Cp.of_re,Cp.of_im];grind
  ·simp only[Cp.mul_re,Cp.mul_im,Cp.neg_re,Cp.neg_im,Cp.of_re,Cp.of_im];grind
theorem bVi(n:Nat):((-1:Rat)^n)*((-1)^n)=1:=by
 induction n with
 |zero=>rw[Rat.pow_zero];grind
 |succ n ih=>rw[Rat.pow_succ];grind
theorem aYq{b γ δ:Cp}{p:Rat}(hγ:γ.nsq≠0)(hδ:δ.nsq≠0)(e:δ=b-γ)(r ν:Nat):
  (-γ.inv).pw r*Fv b (jU γ.inv p r) (ν+1)=C9 (cf r (ν+1):Rat)*(C9 ((-1)^ν)*δ.inv.pw (ν+r)):=by
 rw[aH4];have e1:O9-b*γ.inv=-(δ*γ.inv):=by have h:=Cp.inv_mul hγ;rw[<-h,e,Cp.sub_mul];exact E9 (by simp only[Cp.sub_re,Cp.neg_re];grind) (by simp only[Cp.sub_im,Cp.neg_im];grind)
 have e2:(O9-b*γ.inv).inv=-(δ.inv*γ):=by
  rw[e1];refine tZ ?_ ?_
  ·have n1:(-(δ*γ.inv)).nsq=δ.nsq*γ.inv.nsq:=by rw[<-Cp.nsq_mul];unfold Cp.nsq;simp only[Cp.neg_re,Cp.neg_im];grind
   rw[n1];intro h0;rcases Rat.mul_eq_zero.1 h0 with h0|h0;· exact hδ h0
   ·have:=aPm hγ;rw[h0]at this;grind
  ·have h:=Cp.inv_mul hγ;have k:=Cp.inv_mul hδ;have q:-(δ*γ.inv)*-(δ.inv*γ)=(δ*δ.inv)*(γ*γ.inv):=by
    generalize δ.inv=d';generalize γ.inv=g';refine E9 ?_ ?_;· simp only[Cp.mul_re,Cp.mul_im,Cp.neg_re,Cp.neg_im];grind
    ·simp only[Cp.mul_re,Cp.mul_im,Cp.neg_re,Cp.neg_im];grind
   rw[q,h,k,Cp.mul_one]
 have g1:=aBs (Cp.inv_mul hγ) ν;have g2:=aBs (Cp.inv_mul hγ) r;have s:C9 ((-1:Rat)^r)*C9 ((-1:Rat)^r)=O9:=by rw[<-Cp.of_mul_of,bVi];rfl
 rw[e2,bAt,bAt,Cp.pw_mul,Cp.pw_add γ,Go.Vx.pow_add (-1:Rat) ν r,Cp.of_mul_of];generalize C9 ((-1:Rat)^r)=sr at *
 generalize C9 ((-1:Rat)^ν)=sv at *
 generalize γ.pw ν=A at *
 generalize γ.inv.pw ν=A' at *
 generalize γ.pw r=B at *
 generalize γ.inv.pw r=B' at *
 generalize δ.inv.pw (ν+r)=Δ;generalize C9 (cf r (ν+1):Rat)=K;have e3:sr*B'*(K*(A'*(sv*sr*(Δ*(A*B)))))=(K*(sv*Δ))*((sr*sr)*((B*B')*(A*A'))):=by simp only[M9,Cp.mul_left_comm,Cp.mul_comm]
 rw[e3,s,g1,g2,Cp.mul_one,Cp.mul_one,Cp.mul_one]
theorem bNn{n:Nat}(hn:n<=17):(2829:Rat)^n<=2829^17:=eU (by decide) hn
theorem bHi:64*(2829:Rat)^16+1<=iG:=by rw[bZ];decide +kernel
theorem bAb:16*tn<=1/1000*eps*(1:Rat)^16:=by have:=aHw (q:=0) (by decide);rw[show(2:Rat)^(-((0:Nat):Int))=1 by rw[show(-((0:Nat):Int))=0 by rfl,Rat.zpow_zero]]at this;rw[pM];exact this
theorem bUk:16*tn<=1/1000*eps*1:=by have:=bAb;rwa[pM]at this
theorem aH2{a b:Nat}{D:Cp}(hD:IsZ a b D)(gD:Ng D 1)(nD:Nm D 2829)(l:List Bool){N:Nat}(hl:bCy l 1=N)(hN:N<=16):
  ∃p q P,IsZ p q P/\Rl P (D.pw N) (18*eps)/\∀(R:Type)(k:KNN R),gR dV a b l a b k=k p q:=by
 have ep:=bI;obtain⟨p,q,P,h1,h2,h3⟩:=aB2 hD gD nD (by decide) (R9) (N:=16) (by decide) bHi bAb l 1 a b D (by decide) (by omega) hD (by rw[Cp.pw_one];exact Rl.refl D (by unfold cE;simp));rw[hl]at h2;refine⟨p,q,P,h1,h2.mono ?_,h3⟩;unfold cE;have:((N-1:Nat):Rat)<=16:=by exact_mod_cast (show N-1<=16 by omega)
 have:=cG this (show 0<=1001/1000*eps by grind);grind
theorem bV8{a b:Nat}{D:Cp}(hD:IsZ a b D)(gD:Ng D 1)(nD:Nm D 2829):
  ∃p q P,IsZ p q P/\Rl P (D.pw 17) (18*eps)/\∀(R:Type)(k:KNN R),gR dV a b (mM 17) a b k=k p q:=by
 have ep:=bI;have et:=bR;obtain⟨p,q,P,h1,h2,h3⟩:=aB2 hD gD nD (by decide) (R9) (N:=16) (by decide) bHi bAb [false,false,false,false] 1 a b D (by decide) (by decide) hD (by rw[Cp.pw_one];exact Rl.refl D (by unfold cE;simp));have h2':Rl P (D.pw 16) (1502/100*eps):=h2.mono (by show(((16-1:Nat):Rat))*(1001/1000*eps)<=_;rw[show((16-1:Nat):Rat)=15 by rfl];grind);have n16:Nm P (1001/1000*2829^16):=by
  have e:=(h2'.err (xV nD 16)).near (xV nD 16);refine e.mono ?_;have p0:(0:Rat)<=2829^16:=Rat.pow_nonneg (by decide);have:=cG et p0;generalize (2829:Rat)^16=X at *
  grind
 have g16:Ng P (1/2):=by have:=h2'.ng (yR gD 16) (by grind);rwa[pM]at this
 obtain⟨p2,q2,P2,i2,r2,run2⟩:=vE h1 hD n16 nD (by rw[bZ];decide +kernel) (.inr (.inr ⟨g16.mul gD,by have:=bUk;grind⟩));refine⟨p2,q2,P2,i2,?_,λR k=>?_⟩;· have t:=r2.trans (h2'.mul (Rl.refl D (δ:=0) R9));refine Rl.mono t ?_;have:=cG et (bN ep);grind
 ·rw[show gR dV a b (mM 17) a b k=gR dV a b [false,false,false,false] a b λx y=>dV R x y a b k by rfl,h3];exact run2 R k
theorem aQv{n:Nat}(hn:n<=10){a b:Nat}(R:Type)(k:KNN R):mV R a b (n:Int) k=lL R a b (n:Int) k:=by
 unfold mV;have h1:(((n:Nat):Int)==11)=false:=by simp;omega
 have h2:(((n:Nat):Int)==12)=false:=by simp;omega
 have h3:(((n:Nat):Int)==13)=false:=by simp;omega
 have h4:(((n:Nat):Int)==14)=false:=by simp;omega
 have h5:(((n:Nat):Int)==15)=false:=by simp;omega
 have h6:(((n:Nat):Int)==16)=false:=by simp;omega
 have h7:(((n:Nat):Int)==17)=false:=by simp;omega
 rw[h1,h2,h3,h4,h5,h6,h7];rfl
def bW:Rat:=2*2829^17
theorem bRe:0<bW:=by unfold bW;decide +kernel
theorem bRc:bW<=(2:Rat)^(300:Int):=by have:=cY (show(200:Int)<=300 by decide);refine cR ?_ this;rw[show(200:Int)=((200:Nat):Int) by rfl,cN];unfold bW;decide +kernel
theorem bRd:(2:Rat)^(-300:Int)<=1/20*bW⁻¹:=by
 have:=cY (show(-300:Int)<=-250 by decide);refine cR this ?_;have c:=jG 250;rw[show(2:Rat)^(250:Int)=1809251394333065553493296640760748560207343510400633813116524750123642650624 by rw[show(250:Int)=((250:Nat):Int) by rfl,cN];rfl]at c;have e:(2:Rat)^(-250:Int)=1/1809251394333065553493296640760748560207343510400633813116524750123642650624:=by grind
 rw[e];unfold bW;decide +kernel
theorem bV2:4*tn<=1/1000*eps*(1/40):=by have:=aHw (q:=20) (by decide);rw[show(-((20:Nat):Int))=-20 by rfl,aPt]at this;have:=bI;grind
theorem aTc{a b:Nat}{D:Cp}(hD:IsZ a b D)(gD:Ng D 1)(nD:Nm D 2829){n:Nat}(hn:n<=17):
  ∃p q P,IsZ p q P/\Rl P (D.pw n) (18*eps)/\∀(R:Type)(k:KNN R),mV R a b (n:Int) k=k p q:=by
 have ep:=bI;rcases Nat.lt_or_ge n 11 with h|h;· obtain⟨p,q,P,h1,h2,h3⟩:=aF5 hD gD nD (by decide) R9 (by rw[bZ];decide +kernel) (by have:=bUk;rwa[pM]) (n:=n) (by omega);exact⟨p,q,P,h1,h2.mono (by grind),λR k=>by rw[aQv (by omega)];exact h3 R k⟩
 ·match n,h,hn with
  |11,_,_=>obtain⟨p,q,P,h1,h2,h3⟩:=aH2 hD gD nD (mM 11) (N:=11) rfl (by decide);exact⟨p,q,P,h1,h2,h3⟩
  |12,_,_=>obtain⟨p,q,P,h1,h2,h3⟩:=aH2 hD gD nD (mM 12) (N:=12) rfl (by decide);exact⟨p,q,P,h1,h2,h3⟩
  |13,_,_=>obtain⟨p,q,P,h1,h2,h3⟩:=aH2 hD gD nD (mM 13) (N:=13) rfl (by decide);exact⟨p,q,P,h1,h2,h3⟩
  |14,_,_=>obtain⟨p,q,P,h1,h2,h3⟩:=aH2 hD gD nD (mM 14) (N:=14) rfl (by decide);exact⟨p,q,P,h1,h2,h3⟩
  |15,_,_=>obtain⟨p,q,P,h1,h2,h3⟩:=aH2 hD gD nD (mM 15) (N:=15) rfl (by decide);exact⟨p,q,P,h1,h2,h3⟩
  |16,_,_=>obtain⟨p,q,P,h1,h2,h3⟩:=aH2 hD gD nD (mM 16) (N:=16) rfl (by decide);exact⟨p,q,P,h1,h2,h3⟩
  |17,_,_=>obtain⟨p,q,P,h1,h2,h3⟩:=bV8 hD gD nD;exact⟨p,q,P,h1,h2,h3⟩
  |n+18,_,h=>exact absurd h (by omega)
theorem bFo{a b:Nat}{D:Cp}(hD:IsZ a b D)(gD:D=Z9\/Ng D 1)(nD:Nm D 2829){n:Nat}(hn:n<=3):
  ∃p q P,IsZ p q P/\Rl P (D.pw n) (18*eps)/\∀(R:Type)(k:KNN R),mV R a b (n:Int) k=k p q:=by
 have ep:=bI;rcases gD with h0|gD
 ·match n,hn with
  |0,_=>exact⟨4607182418800017408,0,O9,⟨by show Is _ (1:Rat);simpa using bXz,by show Is _ (0:Rat);simpa using hJ⟩,Rl.refl _ (by grind),λR k=>rfl⟩
  |1,_=>exact⟨a,b,D,hD,by rw[Cp.pw_one];exact Rl.refl _ (by grind),λR k=>rfl⟩
  |2,_=>obtain⟨p,q,P,i,r,run⟩:=vE hD hD nD nD (m:=0) (by rw[bZ];decide +kernel) (.inl h0);exact⟨p,q,P,i,by rw[show D.pw 2=D*D by show O9*D*D=_;rw[Cp.one_mul]];exact r.mono (by grind),λR k=>run R k⟩
  |3,_=>
   obtain⟨p,q,P,i,r,run⟩:=vE hD hD nD nD (m:=0) (by rw[bZ];decide +kernel) (.inl h0);have e:P=Z9:=r.zero (by rw[h0,Cp.zero_mul]);obtain⟨p2,q2,P2,i2,r2,run2⟩:=vE i hD (show Nm P 1 by rw[e];exact jM.mono (by decide)) nD (m:=0) (by rw[bZ];decide +kernel) (.inl e);have e2:P2=Z9:=r2.zero (by rw[h0,Cp.mul_zero]);refine⟨p2,q2,P2,i2,?_,λR k=>?_⟩;· rw[e2,h0,show Cp.zero.pw 3=Z9 by show O9*Z9*Z9*Z9=_;rw[Cp.mul_zero]];exact Rl.refl _ (by grind)
   ·show dV R a b a b (λx y=>dV R x y a b k)=_;rw[run,run2]
 ·exact aTc hD gD nD (by omega)
section
variable{A D:Cp}{s1 s2 f d1 d2:Nat}{F:Rat}(iA:IsZ s1 s2 A)(lA:A=Z9\/Ng A (1/10))(nA:Nm A 20000)(iF:Is f F)(F1:1<=F.abs)(F2:F.abs<=10000000000)(iD:IsZ d1 d2 D)(nD:Nm D 2829)
include iA lA nA iF F1 F2
theorem bVg:∃p q P,IsZ p q P/\Rl P (C9 F*A) eps/\(P=Z9\/Ng P (1/20))/\Nm P 400000000000000/\∀(R:Type)(k:KNN R),eQ R s1 s2 f k=k p q:=by
 have ep:=bI;have et:=bR;have low:A=Z9\/Ng (C9 F*A) (1/10):=by
  rcases lA with h|h;· exact .inl h
  ·right;have:Ng (C9 F) 1:=⟨by decide,by
    have e:(C9 F).nsq=F*F:=by unfold Cp.nsq;simp only[Cp.of_re,Cp.of_im];grind
    have e2:=oL F;have:=aC F1 F1 (by decide) (by grind);rw[e];grind⟩
   have:=this.mul h;exact this.mono (by decide +kernel) (by decide +kernel)
 obtain⟨p,q,P,iP,rP,run⟩:=aTu iA iF nA (m:=1/10) (by rw[bZ];grind) (by
  rcases low with h|h;· exact .inl h
  ·exact .inr ⟨h,by have:=bV2;grind⟩)
 refine⟨p,q,P,iP,rP,?_,?_,run⟩
 ·rcases low with h|h
  ·left;exact rP.zero (by rw[h,Cp.mul_zero])
  ·right;exact(rP.ng h (by grind)).mono (by decide +kernel) (by decide +kernel)
 ·have n1:Nm (C9 F*A) (10000000000*20000):=(oV F2).mul nA;exact(rP.nm n1 (by grind)).mono (by decide +kernel)
include iD nD
theorem aXo(gD:Ng D 1){N:Nat}(hN:N<=17):∃(v:Nat×Nat)(V:Cp),IsZ v.1 v.2 V/\Rl V (C9 F*A*D.inv.pw N) (105*eps)/\∀(R:Type)(k:KNN R),(eQ R s1 s2 f λu1 u2=>mV R d1 d2 (N:Int) λx y=>rN R u1 u2 x y k)=k v.1 v.2:=by
 have ep:=bI;have et:=bR;obtain⟨p,q,U,iU,rU,lU,nU,hU⟩:=bVg iA lA nA iF F1 F2;obtain⟨x,y,W,iW,rW,hW⟩:=aTc iD gD nD hN;have Dn:D.nsq≠0:=vF gD (by decide);have gW:Ng W (1/2):=by have:=rW.ng (yR gD N) (by grind);rwa[pM]at this
 have nW:Nm W bW:=(rW.nm (xV nD N) (by grind)).mono (by unfold bW;exact dI (bNn hN) (by decide));obtain⟨i1,i2⟩:=sC gW (by decide +kernel) nW bRe;have h1:(2:Rat)^(-299:Int)<=1/2:=by have:=cY (show(-299:Int)<=-20 by decide);rw[aPt]at this;exact cR this (by decide +kernel)
 have h4:(400000000000000:Rat)*(1/2)⁻¹<=(2:Rat)^(299:Int):=by have:=cY (show(60:Int)<=299 by decide);refine cR ?_ this;rw[show(60:Int)=((60:Nat):Int) by rfl,cN];decide +kernel
 obtain⟨v1,v2,V,iV,rV,hV⟩:=aIr iU iW gW nW h1 bRc (mq:=1/20*bW⁻¹) (rq:=400000000000000*(1/2)⁻¹) (by
  rcases lU with h|h;· exact .inl h
  ·exact .inr ⟨h.mul i2,nU.mul i1,bRd,h4⟩)
 refine⟨(v1,v2),V,iV,?_,λR k=>by rw[hU,hW,hV]⟩;have t1:=(rW.inv (by grind) (aSy Dn N)).1;rw[aY5 Dn]at t1;have t2:=rV.trans (rU.mul t1);refine t2.mono ?_;have ee:=cG et (bN ep);have eee:=cG ee (bN ep);grind
theorem aXn(gD:D=Z9\/Ng D 1){N:Nat}(hN:N<=3):∃(v:Nat×Nat)(V:Cp),IsZ v.1 v.2 V/\Rl V (C9 F*A*D.pw N) (105*eps)/\∀(R:Type)(k:KNN R),(eQ R s1 s2 f λu1 u2=>mV R d1 d2 (N:Int) λx y=>dV R u1 u2 x y k)=k v.1 v.2:=by
 have ep:=bI;have et:=bR;obtain⟨p,q,U,iU,rU,lU,nU,hU⟩:=bVg iA lA nA iF F1 F2;obtain⟨x,y,W,iW,rW,hW⟩:=bFo iD gD nD hN;have nW:Nm W (2*2829^3):=(rW.nm (xV nD N) (by grind)).mono (dI (eU (by decide) hN) (by decide));have lW:W=Z9\/Ng W (1/2):=by
  rcases gD with h|h
  ·match N,hN with
   |0,_=>right;have:=rW.ng (m:=1) (by show Ng O9 1;exact yR (z:=O9) (m:=1) ⟨by decide,by show(1:Rat)*1<=Cp.one.nsq;unfold Cp.nsq;simp only[Cp.one_re,Cp.one_im];grind⟩ 0 |>.mono (by decide) (by rw[Rat.pow_zero];exact R9)) (by grind);exact this
   |n+1,_=>left;exact rW.zero (by show D.pw n*D=_;rw[h,Cp.mul_zero])
  ·right;have:=rW.ng (yR h N) (by grind);rwa[pM]at this
 obtain⟨v1,v2,V,iV,rV,hV⟩:=vE iU iW nU nW (m:=1/20*(1/2)) (by rw[bZ];decide +kernel) (by
  rcases lU with h|h;· exact .inl h
  ·rcases lW with g|g
   ·exact .inr (.inl g)
   ·exact .inr (.inr ⟨h.mul g,by have:=bV2;grind⟩))
 refine⟨(v1,v2),V,iV,?_,λR k=>by rw[hU,hW,hV]⟩;have t2:=rV.trans (rU.mul rW);refine t2.mono ?_;have ee:=cG et (bN ep);have eee:=cG ee (bN ep);grind
end
theorem aE8{R:Rat}(hR:R≠0)(X:Cp):C9 R*(C9 R⁻¹*X)=X:=by rw[<-M9,<-Cp.of_mul_of,Rat.mul_inv_cancel _ hR];exact Cp.one_mul X
theorem aMk{R:Rat}(hR:R≠0)(n:Nat):(C9 R⁻¹).pw n*(C9 R).pw n=O9:=aBs (by rw[<-Cp.of_mul_of,Rat.inv_mul_cancel _ hR];rfl) n
theorem bPn{δ D:Cp}{R:Rat}(hR:R≠0)(hD:D.nsq≠0)(e:δ=C9 R⁻¹*D):δ.nsq≠0/\δ.inv=C9 R*D.inv:=by
 have hR':R⁻¹≠0:=λh=>by have:=Rat.mul_inv_cancel _ hR;rw[h]at this;grind
 have n0:δ.nsq≠0:=by
  rw[e,uD];intro h;rcases Rat.mul_eq_zero.1 h with h|h;· rcases Rat.mul_eq_zero.1 h with h|h<;>exact hR' h
  ·exact hD h
 refine⟨n0,tZ n0 ?_⟩;rw[e,ac4,<-Cp.of_mul_of,Rat.inv_mul_cancel _ hR,Cp.inv_mul hD];exact Cp.mul_one _
theorem aHm{A b γ D:Cp}{R p:Rat}(hR:R≠0)(hγ:γ.nsq≠0)(hD:D.nsq≠0)(e:b-γ=C9 R⁻¹*D)(f:Rat)(r ν:Nat):
  A*(C9 R⁻¹).pw r*(-γ.inv).pw r*(C9 f*(C9 R⁻¹).pw ν)*Fv b (jU γ.inv p r) (ν+1)=C9 (f*(cf r (ν+1):Rat)*(-1)^ν)*A*D.inv.pw (ν+r):=by
 obtain⟨n0,iδ⟩:=bPn hR hD e;have g:=aYq (p:=p) hγ n0 rfl r ν;have h:=aMk hR (ν+r);rw[iδ,Cp.pw_mul]at g;rw[Cp.pw_add]at h;have e1:A*(C9 R⁻¹).pw r*(-γ.inv).pw r*(C9 f*(C9 R⁻¹).pw ν)*Fv b (jU γ.inv p r) (ν+1)=A*C9 f*((C9 R⁻¹).pw ν*(C9 R⁻¹).pw r)*((-γ.inv).pw r*Fv b (jU γ.inv p r) (ν+1)):=by simp only[M9,Cp.mul_left_comm,Cp.mul_comm]
 rw[e1,g,Cp.of_mul_of,Cp.of_mul_of];generalize (C9 R⁻¹).pw ν*(C9 R⁻¹).pw r=X at *
 generalize (C9 R).pw (ν+r)=Y at *
 generalize D.inv.pw (ν+r)=Z;generalize C9 (cf r (ν+1):Rat)=K;generalize C9 ((-1:Rat)^ν)=s;generalize C9 f=F;have e2:A*F*X*(K*(s*(Y*Z)))=F*K*s*A*Z*(X*Y):=by simp only[M9,Cp.mul_left_comm,Cp.mul_comm]
 rw[e2,h,Cp.mul_one]
theorem aLp{A b γ D:Cp}{R p:Rat}(hR:R≠0)(e:b-γ=C9 R⁻¹*D)(f:Rat){k ν:Nat}(h:ν<=k):
  A*(C9 R).pw k*(C9 f*(C9 R⁻¹).pw ν)*Fv b (pC γ p k) (ν+1)=C9 (f*(cl k (ν+1):Rat))*A*D.pw (k-ν):=by
 rw[aNs k ν h,e,Cp.pw_mul,Cp.of_mul_of];have h1:=aMk hR k;obtain⟨j,rfl⟩:∃j,k=ν+j:=⟨k-ν,by omega⟩;rw[show ν+j-ν=j by omega];rw[Cp.pw_add (C9 R⁻¹)]at h1;generalize (C9 R⁻¹).pw ν=X at *
 generalize (C9 R⁻¹).pw j=X' at *
 generalize (C9 R).pw (ν+j)=Y at *
 generalize D.pw j=Z;generalize C9 (cl (ν+j) (ν+1):Rat)=K;generalize C9 f=F;have e2:A*Y*(F*X)*(K*(X'*Z))=F*K*A*Z*(X*X'*Y):=by simp only[M9,Cp.mul_left_comm,Cp.mul_comm]
 rw[e2,h1,Cp.mul_one]
def mP:Nat->Nat
 |0=>1
 |n+1=>(n+1)*mP n
end Go.Vx
