/- A part; no conditions. -/
import Derived.Test.YtaogignikkjkjaaGreatVmX8
set_option maxRecDepth 1000000
set_option maxHeartbeats 1000000
set_option linter.all false
open Nat renaming le_refl->L9
open Go.Vx.Cp renaming of->C9,zero->Z9,one->O9,mul_assoc->M9,ext'->E9,sub_re->S9,sub_im->T9
open Rat renaming le_refl->R9
open Go renaming floatOfInt->U9
namespace Go.Vx
open Go.Vm Ieee
theorem bA3{x z:Rat}(h:Rnd x z)(hx:x=0\/1<=x):(z-x).abs<=eps/4*x:=by
 rcases hx with h0|h1;· have:=qC h h0;rw[this,h0,show(0:Rat)-0=0 by grind,fO];grind
 ·have:=vV h (B:=x) (by rw[fZ (by grind)];exact R9) (cR mZ (cR (by decide +kernel) h1));exact this
section
variable{Q h:Rat}{n k:Nat}(hQ:aUf Q)(n1:128<=n)(n2:n<=512)(hh:(n:Rat)*h=Q)(hk:k<n)
include hQ n1 n2 hh hk
theorem cEh:Is (U9 .f64 (k:Int)) (k:Rat):=by
 have:Is (U9 .f64 (k:Int)) ((k:Int):Rat):=pL (by omega);have nc:(((k:Nat):Int):Rat)=(k:Rat):=by exact_mod_cast rfl
 rwa[nc]at this
theorem bTk:(k:Rat)=0\/1<=(k:Rat):=by
 rcases Nat.eq_zero_or_pos k with h0|h0;· left;rw[h0];rfl
 ·right;exact_mod_cast h0
theorem bTg:(k:Rat)<=512:=by exact_mod_cast (show k<=512 by omega)
theorem aFf:2*(k:Rat)*piV=0\/1<=2*(k:Rat)*piV:=by
 have p:=bNk;rcases bTk hQ n1 n2 hh hk with h0|h0;· left;rw[h0];grind
 ·right;have:=aC (show(2:Rat)<=2*(k:Rat) by grind) (show(3:Rat)<=piV by grind) (by decide) (by grind);grind
theorem aTe:(2*(k:Rat)*piV).abs<=1000000000000000:=by
 have p:=bNk;have a:=bTg hQ n1 n2 hh hk;have k0:(0:Rat)<=(k:Rat):=by exact_mod_cast Nat.zero_le k
 have:=aC (show 2*(k:Rat)<=1024 by grind) (show piV<=4 by grind) (by grind) (by decide);rw[fZ (bU (by grind) (by grind))];grind
theorem aTf{A:Rat}(d:(A-2*(k:Rat)*piV).abs<=eps/4*(2*(k:Rat)*piV)):0<=A:=by
 have et:=bR;have x0:0<=2*(k:Rat)*piV:=by rcases aFf hQ n1 n2 hh hk with h|h<;>grind
 have b:=cG (show eps/4<=1 by grind) x0;have:=aA.1 d;grind
theorem aK6:∃t τ,Is t τ/\0<=τ/\τ<=64/10/\(τ-(k:Rat)*h).abs<=54/10*eps/\∀(R:Type)(K:KNO R),
  (bH (U9 .f64 (k:Int)) λa=>aM (fbF .mul 4611686018427387904 a) λa=>aM (fbF .mul a 4614256656552045848) λa=>bH (U9 .f64 (n:Int)) λb=>aM (fbF .quo a b) K)=K t:=by
 have hki:=cEh hQ n1 n2 hh hk;have k5:=bTg hQ n1 n2 hh hk;have k0:(0:Rat)<=(k:Rat):=by exact_mod_cast Nat.zero_le k
 obtain⟨w1,W1,e1,i1,q1⟩:=kH aEk hki (kL (by rw[fZ (by grind)];grind));have v1:W1=2*(k:Rat):=q1.rep (k:Int) 1 (by omega) (by decide) (by
  have nc:(((k:Nat):Int):Rat)=(k:Rat):=by exact_mod_cast rfl
  rw[nc,show(1:Int)=((1:Nat):Int) by rfl,cN];grind)
 subst v1;obtain⟨w2,W2,e2,i2,q2⟩:=kH i1 bMf (kL (aTe hQ n1 n2 hh hk));have d:=bA3 q2 (aFf hQ n1 n2 hh hk);obtain⟨t,τ,h1,h2,h3,h4,h5⟩:=aK7 hQ n1 n2 hh hk i2 (aTf hQ n1 n2 hh hk d) d;exact⟨t,τ,h1,h2,h3,h4,λR K=>by rw[cB,aK e1,aK e2,h5]⟩
theorem bQ3:∃t τ,Is t τ/\0<=τ/\τ<=64/10/\(τ-(k:Rat)*h).abs<=54/10*eps/\∀(R:Type)(K:KNO R),
  (bH (U9 .f64 (k:Int)) λa=>aM (fbF .mul 4618760256179416344 a) λa=>bH (U9 .f64 (n:Int)) λb=>aM (fbF .quo a b) K)=K t:=by
 have hki:=cEh hQ n1 n2 hh hk;have e0:eJ*(k:Rat)=2*(k:Rat)*piV:=by unfold eJ;grind
 obtain⟨w2,W2,e2,i2,q2⟩:=kH bH9 hki (kL (by rw[e0];exact aTe hQ n1 n2 hh hk));rw[e0]at q2;have d:=bA3 q2 (aFf hQ n1 n2 hh hk);obtain⟨t,τ,h1,h2,h3,h4,h5⟩:=aK7 hQ n1 n2 hh hk i2 (aTf hQ n1 n2 hh hk d) d;exact⟨t,τ,h1,h2,h3,h4,λR K=>by rw[cB,aK e2,h5]⟩
theorem bNf{τ:Rat}(d:(τ-(k:Rat)*h).abs<=54/10*eps):Nm (om τ-om ((k:Rat)*h)) (542/100*eps):=by
 have ep:=bI;have et:=bR;have kt:=qN;have kb:=(aHe hQ n1 n2 hh (Nat.le_of_lt hk)).1;generalize (k:Rat)*h=x at *
 obtain⟨δ,rfl⟩:∃δ,τ=x+δ:=⟨τ-x,by grind⟩;rw[show x+δ-x=δ by grind]at d;have s:=aHs (d:=δ) (by grind);have a1:=aS2 (x:=x) (y:=δ) (by grind);have a2:Nm (om δ-O9) (1002/1000*(54/10*eps)):=by
  have p1:(om δ-O9).re.abs<=1/1000*(54/10*eps):=by show(csN δ-1).abs<=_;grind
  have p2:(om δ-O9).im.abs<=1001/1000*(54/10*eps):=by show(snN δ-0).abs<=_;have:=aL (snN δ-δ) δ;rw[show snN δ-δ+δ=snN δ-0 by grind]at this;grind
  exact(aJq p1 p2).mono (by grind)
 have a3:=bFa (x:=x) (by grind);have e:om (x+δ)-om x=(om (x+δ)-om x*om δ)+om x*(om δ-O9):=by rw[Cp.mul_sub,Cp.mul_one];exact E9 (by simp only[Cp.add_re,S9];grind) (by simp only[Cp.add_im,T9];grind)
 rw[e];refine(a1.add (a3.mul a2)).mono ?_;have kk:kP<=1/1000*eps:=by rw[oP];exact cR kt (by decide +kernel)
 have:=cG (show 1+6*kP<=10001/10000 by grind) (show 0<=1002/1000*(54/10*eps) by grind);grind
theorem aVp{r t:Nat}{R τ:Rat}(hr:Is r R)(R1:1<=R)(R2:R<=100000)(ht:Is t τ)(t0:0<=τ)(t1:τ<=64/10)(d:(τ-(k:Rat)*h).abs<=54/10*eps):
  ∃x y D,IsZ x y D/\Nm (C9 R⁻¹*D-om ((k:Rat)*h)) (16*eps)/\∀(T:Type)(K:KNN T),(yV T t λs c=>aM (fbF .mul r c) λx=>aM (fbF .mul r s) λy=>K x y)=K x y:=by
 have ep:=bI;have et:=bR;obtain⟨s,c,S,C,iS,iC,dS,dC,hK⟩:=aV3 ht t0 t1;have no:=bNf hQ n1 n2 hh hk d;have nk:=bCz hQ n1 n2 hh (Nat.le_of_lt hk);have kt:=qN;have nτ:Nm (om τ) (1001/1000):=(no.near nk).mono (by grind);have bC:C.abs<=1002/1000:=by have h1:=nτ.re;have:=aL (C-csN τ) (csN τ);rw[show C-csN τ+csN τ=C by grind]at this;have:(om τ).re=csN τ:=rfl;grind
 have bS:S.abs<=1002/1000:=by have h1:=nτ.im;have:=aL (S-snN τ) (snN τ);rw[show S-snN τ+snN τ=S by grind]at this;have:(om τ).im=snN τ:=rfl;grind
 have aR:R.abs=R:=fZ (by grind);have bRC:(R*C).abs<=1002/1000*R:=by rw[bD,aR];have:=dI bC (show 0<=R by grind);grind
 have bRS:(R*S).abs<=1002/1000*R:=by rw[bD,aR];have:=dI bS (show 0<=R by grind);grind
 obtain⟨x,X,e1,i1,q1⟩:=kH hr iC (kL (by grind));obtain⟨y,Y,e2,i2,q2⟩:=kH hr iS (kL (by grind));have hB:(2:Rat)^(-1000:Int)<=1002/1000*R:=cR mZ (by grind);have r1:=vV q1 bRC hB;have r2:=vV q2 bRS hB;refine⟨x,y,⟨X,Y⟩,⟨i1,i2⟩,?_,λT K=>by rw[hK,aK e1,aK e2]⟩;have inv0:0<=R⁻¹:=bN (Rat.inv_pos.2 (by grind));have ri:R⁻¹*R=1:=Rat.inv_mul_cancel _ (by grind);have part:∀{X C:Rat},(X-R*C).abs<=eps/4*(1002/1000*R)->(R⁻¹*X-C).abs<=eps/4*(1002/1000):=λ{X C} g=>by
  have e:R⁻¹*X-C=R⁻¹*(X-R*C):=by
   have:R⁻¹*(X-R*C)=R⁻¹*X-R⁻¹*R*C:=by grind
   rw[this,ri];grind
  rw[e,bD,fZ inv0];have:=dI g inv0;have e2:R⁻¹*(eps/4*(1002/1000*R))=R⁻¹*R*(eps/4*(1002/1000)):=by grind
  rw[e2,ri]at this;grind
 have p1:=part r1;have p2:=part r2;have g1:Nm (C9 R⁻¹*⟨X,Y⟩-⟨C,S⟩) (3/2*(eps/4*(1002/1000))):=by rw[Cp.of_mul];exact vG (a:=⟨R⁻¹*X,R⁻¹*Y⟩-⟨C,S⟩) (by show(R⁻¹*X-C).abs<=_;exact p1) (by show(R⁻¹*Y-S).abs<=_;exact p2)
 have g2:Nm ((⟨C,S⟩:Cp)-om τ) (3/2*(6*eps)):=vG (by show(C-csN τ).abs<=_;exact dC) (by show(S-snN τ).abs<=_;exact dS);exact((g1.tri g2).tri no).mono (by grind)
end
open Go.Vm
inductive Sd where
 |inn (b:Cp) (qb:Rat) (q:Nat)
 |out (L:List Fc)
namespace Sd
def at_(s:Sd)(z w:Cp):Cp:=match s with
 |.inn b qb q=>inV b qb q w
 |.out L=>cC L z
def W(s:Sd):Rat:=match s with
 |.inn b qb q=>wL (jU b qb q)
 |.out L=>wL L
def Ok(ρ:Rat)(s:Sd):Prop:=match s with
 |.inn b qb q=>(Fc.geo b qb).Ok ρ/\1<=q/\q<=9
 |.out L=>OkL ρ L/\rM L<=18/\wG L<=(9/4)^9
def pairG(s t:Sd):Cp:=match s,t with
 |.inn b qb q,.out L=>Fv b L q
 |.out L,.inn b qb q=>Fv b L q
 |.inn _ _ _,.inn _ _ _=>Z9
 |.out _,.out _=>Z9
end Sd
theorem wN(x:Cp):∀L M:List Fc,cC (L++M) x=cC L x*cC M x
 |[],M=>by show cC M x=O9*cC M x;rw[Cp.one_mul]
 |f::L,M=>by show f.at x*cC (L++M) x=f.at x*cC L x*cC M x;rw[wN x L M,M9]
theorem aH0:∀L M:List Fc,wL (L++M)=wL L*wL M
 |[],M=>by show wL M=1*wL M;rw[Rat.one_mul]
 |f::L,M=>by show f.w*wL (L++M)=f.w*wL L*wL M;rw[aH0 L M,Rat.mul_assoc]
theorem uT:∀L M:List Fc,rM (L++M)=rM L+rM M
 |[],M=>by show rM M=0+rM M;omega
 |f::L,M=>by show f.cnt+rM (L++M)=f.cnt+rM L+rM M;rw[uT L M];omega
theorem xE:∀L M:List Fc,wG (L++M)=wG L*wG M
 |[],M=>by show wG M=1*wG M;rw[Rat.one_mul]
 |f::L,M=>by show f.kap*wG (L++M)=f.kap*wG L*wG M;rw[xE L M,Rat.mul_assoc]
theorem aJs{ρ:Rat}{L M:List Fc}(h:OkL ρ L)(g:OkL ρ M):OkL ρ (L++M):=λf hf=>by
 rcases List.mem_append.1 hf with h1|h1;· exact h f h1
 ·exact g f h1
theorem bPa{m j:Nat}(h:m<=j):th m<=th j:=by
 obtain⟨d,rfl⟩:∃d,j=m+d:=⟨j-m,by omega⟩;clear h;induction d with
 |zero=>exact R9
 |succ d ih=>rw[<-Nat.add_assoc,aKo];have:=qE (m+d);grind
def EE:Rat:=3/4398046511104
theorem aGv:0<=EE:=by unfold EE;decide +kernel
theorem bJq:EE<=1/1000000000000:=by unfold EE;decide +kernel
theorem bEn:2*(((9:Rat)/4)^18*th 17)<=1/4398046511104:=by unfold th;decide +kernel
theorem aOk:eps=1/2251799813685248:=by rw[oP]
theorem bN0:uL*53<=2/4398046511104:=by unfold uL;rw[aOk];decide +kernel
theorem aGj{m:Nat}{L:List Fc}(hm:m<=17)(hc:m+rM L<=53)(hk:wG L<=(9/4)^18):eL uL m L<=EE:=by
 unfold eL;have h1:((m+rM L:Nat):Rat)<=((53:Nat):Rat):=Rat.natCast_le_natCast.2 hc;have h2:=dI h1 aBz;have h3:((53:Nat):Rat)=53:=rfl;have h4:=bN0;have h5:=bEn;have h6:=aC hk (bPa hm) (qE m) (show(0:Rat)<=(9/4)^18 by decide +kernel);rw[h3]at h2;unfold EE;rw[Rat.mul_assoc 2 (wG L) (th m)];generalize uL*((m+rM L:Nat):Rat)=A at *
 generalize uL*53=B at *
 generalize wG L*th m=C at *
 generalize ((9:Rat)/4)^18*th 17=D at *
 grind
section
variable{n:Nat}{z w:Nat->Cp}(hz:Pts lD uL n z)(hw:Pts lD uL n w)(hzw:∀k,k<n->z k*w k=O9)(hn:0<n)
include hz hw hzw hn
theorem bEe{b:Cp}{qb:Rat}{q:Nat}(h1:1<=q){k:Nat}(hk:k<n)(X:Cp):z k*(inV b qb q (w k)*X)=(w k).pw (q-1)*(cC (jU b qb q) (w k)*X):=by obtain⟨p,rfl⟩:∃p,q=p+1:=⟨q-1,by omega⟩;unfold inV;rw[uI,show p+1-1=p by omega];simp only[Cp.pw];generalize hA:(Fc.geo b qb).at (w k)=A;have e:=hzw k hk;rw[M9 ((w k).pw p*w k) (A.pw p*A) X,M9 ((w k).pw p) (w k),Cp.mul_left_comm ((w k).pw p) (w k),<-M9 (z k) (w k),e,Cp.one_mul]
theorem bYd{q:Nat}(h1:1<=q)(h9:q<=9){b:Cp}{qb:Rat}:eL uL (if q=1 then 1 else q-1) (jU b qb q)<=EE:=by
 have k9:wG (jU b qb q)<=(9/4)^18:=by rw[tE];exact eU (by decide +kernel) (by omega)
 refine aGj ?_ ?_ k9;· split<;>omega
 ·rw[pO];split<;>omega
theorem bJr{L M:List Fc}(hc:rM L<=18)(hk:wG L<=(9/4)^9)(hM:M <:+ L):eL uL 1 M<=EE:=by obtain⟨A,rfl⟩:=hM;rw[uT]at hc;rw[xE]at hk;refine aGj (by omega) (by omega) ?_;have a:=uY A;have m:=uY M;have:=cG a (cR (show(0:Rat)<=1 by decide) m);have p:((9:Rat)/4)^9<=(9/4)^18:=eU (by decide +kernel) (by decide);rw[Rat.one_mul]at this;exact cR this (cR hk p)
theorem bCl{A B n:Rat}(hn:0<=n)(hW:0<=A)(h:B<=EE):n*(A*B)<=n*(A*EE):=dI (dI h hW) hn
theorem aS8{s t:Sd}(hs:s.Ok lD)(ht:t.Ok lD):Nm (csm (λk=>z k*(s.at_ (z k) (w k)*t.at_ (z k) (w k))) n-C9 (n:Rat)*s.pairG t) ((n:Rat)*(s.W*t.W*EE)):=by
 have n0:(0:Rat)<=(n:Rat):=by exact_mod_cast Nat.zero_le n
 have sub0:∀x:Cp,x-C9 (n:Rat)*Z9=x:=λx=>by rw[Cp.mul_zero];exact E9 (by simp only[S9,Cp.zero_re];grind) (by simp only[T9,Cp.zero_im];grind)
 cases s with
 |inn b qb q=>
  obtain⟨s1,s2,s3⟩:=hs;cases t with
  |inn b' qb' q'=>
   obtain⟨t1,t2,t3⟩:=ht;show Nm (_-C9 (n:Rat)*Z9) _;rw[sub0];have hL:=aJs (kN s1 q) (kN t1 q');have h:=tD hw hn _ hL (q+q'-1) (by omega);have e:csm (λk=>z k*(inV b qb q (w k)*inV b' qb' q' (w k))) n=csm (λk=>(w k).pw (q+q'-1)*cC (jU b qb q++jU b' qb' q') (w k)) n:=cA λk hk=>by rw[bEe hz hw hzw hn s2 hk];unfold inV;rw[wN,uI b' qb',show q+q'-1=(q-1)+q' by omega,Cp.pw_add];simp only[M9];congr 1;rw[Cp.mul_left_comm]
   show Nm (csm (λk=>z k*(inV b qb q (w k)*inV b' qb' q' (w k))) n) _;rw[e];refine h.mono ?_;rw[aH0];have ws:=(gH hw.one (kN s1 q) (hw.at_ 0 hn)).2;have wt:=(gH hw.one (kN t1 q') (hw.at_ 0 hn)).2;refine bCl hz hw hzw hn n0 (bU (cR (by decide) ws) (cR (by decide) wt)) (aGj (by omega) ?_ ?_);· rw[uT,pO,pO];omega
   ·rw[xE,tE,tE,<-pow_add];exact eU (by decide +kernel) (by omega)
  |out L=>obtain⟨t1,t2,t3⟩:=ht;exact aJ0 hz hw hzw hn s1 (λq a b=>bYd hz hw hzw hn a b) L t1 (λM hM=>bJr hz hw hzw hn t2 t3 hM) q s3
 |out L=>
  obtain⟨s1,s2,s3⟩:=hs;cases t with
  |inn b' qb' q'=>
   obtain⟨t1,t2,t3⟩:=ht;have h:=aJ0 hz hw hzw hn t1 (λq a b=>bYd hz hw hzw hn a b) L s1 (λM hM=>bJr hz hw hzw hn s2 s3 hM) q' t3;have e:csm (λk=>z k*(cC L (z k)*inV b' qb' q' (w k))) n=csm (λk=>z k*(inV b' qb' q' (w k)*cC L (z k))) n:=cA λk hk=>by rw[Cp.mul_comm (cC L (z k))]
   show Nm (csm (λk=>z k*(cC L (z k)*inV b' qb' q' (w k))) n-C9 (n:Rat)*Fv b' L q') ((n:Rat)*(wL L*wL (jU b' qb' q')*EE));rw[e,Rat.mul_comm (wL L)];exact h
  |out M=>
   obtain⟨t1,t2,t3⟩:=ht;show Nm (_-C9 (n:Rat)*Z9) _;rw[sub0];have h:=tD hz hn _ (aJs s1 t1) 1 (L9 1);have e:csm (λk=>z k*(cC L (z k)*cC M (z k))) n=csm (λk=>(z k).pw 1*cC (L++M) (z k)) n:=cA λk hk=>by rw[wN,Cp.pw_one]
   show Nm (csm (λk=>z k*(cC L (z k)*cC M (z k))) n) _;rw[e];refine h.mono ?_;rw[aH0];have ws:=(gH hz.one s1 (hz.at_ 0 hn)).2;have wt:=(gH hz.one t1 (hz.at_ 0 hn)).2;refine bCl hz hw hzw hn n0 (bU (cR (by decide) ws) (cR (by decide) wt)) (aGj (by omega) ?_ ?_);· rw[uT];omega
   ·rw[xE];refine cR (aC s3 t3 (cR (by decide) (uY M)) (by decide +kernel)) ?_;rw[<-pow_add];exact R9
end
def rsm(f:Nat->Rat):Nat->Rat
 |0=>0
 |n+1=>rsm f n+f n
theorem pP{f g:Nat->Rat}:∀{n:Nat},(∀k,k<n->f k<=g k)->rsm f n<=rsm g n
 |0,_=>R9
 |n+1,h=>by
  have a:=pP (n:=n) λk hk=>h k (by omega)
  have b:=h n (by omega);show rsm f n+f n<=rsm g n+g n;grind
theorem tN(f g:Nat->Rat):∀n,rsm (λk=>f k+g k) n=rsm f n+rsm g n
 |0=>by show(0:Rat)=0+0;grind
 |n+1=>by show rsm (λk=>f k+g k) n+(f n+g n)=rsm f n+f n+(rsm g n+g n);rw[tN f g n];grind
theorem jD(c:Rat)(f:Nat->Rat):∀n,rsm (λk=>c*f k) n=c*rsm f n
 |0=>by show(0:Rat)=c*0;grind
 |n+1=>by show rsm (λk=>c*f k) n+c*f n=c*(rsm f n+f n);rw[jD c f n];grind
theorem kC(c:Rat):∀n:Nat,rsm (λ_=>c) n=(n:Rat)*c
 |0=>by show(0:Rat)=((0:Nat):Rat)*c;rw[show((0:Nat):Rat)=0 from rfl];grind
 |n+1=>by show rsm (λ_=>c) n+c=_;rw[kC c n];push_cast;grind
theorem eZ{f:Nat->Rat}{n:Nat}(h:∀k,k<n->0<=f k):0<=rsm f n:=by have:=pP (f:=λ_=>0) h;rw[kC]at this;grind
theorem jE{f:Nat->Cp}{r:Nat->Rat}:∀{n:Nat},(∀k,k<n->Nm (f k) (r k))->Nm (csm f n) (rsm r n)
 |0,_=>jM
 |n+1,h=>(jE (n:=n) λk hk=>h k (by omega)).add (h n (by omega))
theorem bA4{f:Nat->Rat}{c:Rat}:∀{n:Nat},0<n->rsm f n<=(n:Rat)*c->∃k,k<n/\f k<=c:=λ{n} hn h=>by
 refine Classical.byContradiction λhno=>?_
 have hall:∀k,k<n->c<f k:=λk hk=>Rat.not_le.1 λhl=>hno ⟨k,hk,hl⟩
 have key:∀j,j<=n->0<j->(j:Rat)*c<rsm f j:=by
  intro j;induction j with
  |zero=>intro _ h0;omega
  |succ j ih=>
   intro hj _;have b:=hall j (by omega);show((j+1:Nat):Rat)*c<rsm f j+f j;rcases Nat.eq_zero_or_pos j with h0|h0;· subst h0;show((0+1:Nat):Rat)*c<0+f 0;rw[show((0+1:Nat):Rat)=1 from rfl];grind
   ·have:=ih (by omega) h0;push_cast;grind
 have:=key n (L9 n) hn;grind
def dE:Rat:=7/100000000000
theorem aRd:0<=dE:=by unfold dE;decide +kernel
theorem bKz:dE<=1/10000000000:=by unfold dE;decide +kernel
structure Elw(n:Nat)(z w:Nat->Cp)(s:Sd)(κ:Cp)(V:Nat->Cp)(l:Nat->Rat)(m:Rat):Prop where
 len:∀k,k<n->Nm (V k) (l k)
 sum:rsm l n=(n:Rat)*m
 err:∀k,k<n->Nm (V k-κ*s.at_ (z k) (w k)) (dE*(l k+m))
section
variable{n:Nat}{z w:Nat->Cp}{s:Sd}{κ:Cp}{V:Nat->Cp}{l:Nat->Rat}{m:Rat}
theorem Elw.m0(h:Elw n z w s κ V l m)(hn:0<n):0<=m:=by
 have h1:=eZ (f:=l) (n:=n) λk hk=>(h.len k hk).1
 rw[h.sum]at h1;have n0:(0:Rat)<(n:Rat):=by exact_mod_cast hn
 refine Rat.not_lt.1 λhl=>?_
 have:=Rat.mul_lt_mul_of_pos_left hl n0;grind
theorem Elw.phi(h:Elw n z w s κ V l m){k:Nat}(hk:k<n):Nm (κ*s.at_ (z k) (w k)) (l k+dE*(l k+m)):=by have:=(h.len k hk).sub (h.err k hk);have e:V k-(V k-κ*s.at_ (z k) (w k))=κ*s.at_ (z k) (w k):=E9 (by simp only[S9];grind) (by simp only[T9];grind);rwa[e]at this
theorem Elw.size(h:Elw n z w s κ V l m)(hn:0<n){f:Nat->Cp}{g:Rat}(hf:∀k,k<n->Nm (f k) (1+1/100000))(g0:0<g)(hg:Ng (csm (λk=>f k*s.at_ (z k) (w k)) n) ((n:Rat)*g)):Nm κ (1001/1000*m/g):=by
 have m0:=h.m0 hn;have n0:(0:Rat)<(n:Rat):=by exact_mod_cast hn
 refine aE3 hg (Rat.mul_pos n0 g0) ?_;have e:csm (λk=>f k*s.at_ (z k) (w k)) n*κ=csm (λk=>f k*(κ*s.at_ (z k) (w k))) n:=by rw[Cp.mul_comm,<-lR];exact cA λk _=>by rw[Cp.mul_left_comm]
 rw[e];have h1:=jE (n:=n) (f:=λk=>f k*(κ*s.at_ (z k) (w k))) (r:=λk=>(1+1/100000)*(l k+dE*(l k+m))) λk hk=>(hf k hk).mul (h.phi hk)
 refine h1.mono ?_;rw[jD,tN,jD,tN,kC,h.sum];have e2:(n:Rat)*g*(1001/1000*m/g)=(n:Rat)*m*(1001/1000):=by
  have:g*(1001/1000*m/g)=1001/1000*m:=by rw[Rat.div_def,Rat.mul_comm,Rat.mul_assoc,Rat.inv_mul_cancel _ (by grind),Rat.mul_one]
  rw[Rat.mul_assoc,this];grind
 rw[e2];have nm0:=bU (bN n0) m0;have d:=cG bKz nm0;generalize (n:Rat)*m=N at *
 grind
end
def pC(a:Cp)(c:Rat):Nat->List Fc
 |0=>[]
 |k+1=>.lin a c::pC a c k
def qB:Rat:=508/1000
inductive aNx:Sd->Prop where
 |inn (b:Cp) (q:Nat) (h:(Fc.geo b qB).Ok lD) (h1:1<=q) (h9:q<=9):aNx (.inn b qB q)
 |out (b:Cp) (q:Nat) (h:(Fc.geo b qB).Ok lD) (h9:q<=9):aNx (.out (jU b qB q))
 |lin (a:Cp) (r:Rat) (k:Nat) (h:r=a.re.abs+a.im.abs) (h3:k<=3):aNx (.out (pC a (r+1/1000) k))
theorem aKc(a:Cp)(c:Rat):∀k,rM (pC a c k)=k
 |0=>rfl
 |k+1=>by show 1+rM (pC a c k)=_;rw[aKc a c k];omega
theorem aKd(a:Cp)(c:Rat):∀k,wG (pC a c k)=(3/2)^k
 |0=>by rw[Rat.pow_zero];rfl
 |k+1=>by rw[Rat.pow_succ,<-aKd a c k,Rat.mul_comm];rfl
theorem aTj(a:Cp)(c:Rat):∀k,wL (pC a c k)=(1+c)^k
 |0=>by rw[Rat.pow_zero];rfl
 |k+1=>by rw[Rat.pow_succ,<-aTj a c k,Rat.mul_comm];rfl
theorem aAo(a:Cp)(c:Rat)(x:Cp):∀k,cC (pC a c k) x=(x-a).pw k
 |0=>rfl
 |k+1=>by show(x-a)*cC (pC a c k) x=(x-a).pw k*(x-a);rw[aAo a c x k,Cp.mul_comm]
theorem aP0{a:Cp}{r c:Rat}(hr:Nm a r)(hc:r+(lD-1)<=c):∀k,OkL lD (pC a c k)
 |0=>λf hf=>by simp[pC]at hf
 |k+1=>λf hf=>by
  rcases List.mem_cons.1 hf with rfl|hf;· exact⟨r,hr,hc⟩
  ·exact aP0 hr hc k f hf
theorem aSw(a:Cp):Nm a (a.re.abs+a.im.abs):=aJq R9 R9
theorem bMo(a:Cp):a.re.abs+a.im.abs+(lD-1)<=a.re.abs+a.im.abs+1/1000:=by have:=uJ;grind
theorem aNx.ok{s:Sd}(h:aNx s):s.Ok lD:=by
 cases h with
 |inn b q h h1 h9=>exact⟨h,h1,h9⟩
 |out b q h h9=>exact⟨kN h q,by rw[pO];omega,by rw[tE];exact eU (by decide +kernel) h9⟩
 |lin a r k hr h3=>subst hr;refine⟨aP0 (aSw a) (bMo a) k,by rw[aKc];omega,?_⟩;rw[aKd];exact cR (eU (by decide +kernel) h3) (by decide +kernel)
theorem aYr{q:Nat}(h:q<=9):((1-qB)⁻¹)^q<=593:=cR (eU (by unfold qB;decide +kernel) h) (by unfold qB;decide +kernel)
theorem bSm(q:Nat):0<=((1-qB)⁻¹)^q:=Rat.pow_nonneg (by unfold qB;decide +kernel)
theorem bT4{x:Cp}{n w E:Rat}(n0:0<=n)(h:Nm (x-C9 n) (n*(w*E)))(hw:w*E<=1/1000):Ng x (n*(999/1000)):=by have a:Ng (C9 n) n:=⟨n0,by unfold Cp.nsq;simp only[Cp.of_re,Cp.of_im];grind⟩;have hm:=dI hw n0;have:=oG a h (by grind);have e:C9 n+(x-C9 n)=x:=E9 (by simp only[Cp.add_re,S9];grind) (by simp only[Cp.add_im,T9];grind);rw[e]at this;exact this.mono (bU n0 (by decide +kernel)) (by grind)
section
variable{n:Nat}{z w:Nat->Cp}(hz:Pts lD uL n z)(hw:Pts lD uL n w)(hzw:∀k,k<n->z k*w k=O9)(hn:0<n)
include hz hw hzw hn
theorem aYp{b:Cp}(h:(Fc.geo b qB).Ok lD){q:Nat}(h9:q<=9){x:Nat->Cp}(hx:Pts lD uL n x):Ng (csm (λk=>cC (jU b qB q) (x k)) n) ((n:Rat)*(999/1000)):=by
 have n0:(0:Rat)<=(n:Rat):=by exact_mod_cast Nat.zero_le n
 have h1:=aJ2 hx hn _ (kN h q) (aAn b qB q);have hE:eL uL 1 (jU b qB q)<=EE:=aGj (by omega) (by rw[pO];omega) (by rw[tE];exact eU (by decide +kernel) (by omega));have hW:wL (jU b qB q)<=593:=by rw[aCm];exact aYr h9
 have hW0:0<=wL (jU b qB q):=by rw[aCm];exact bSm q
 have h2:=h1.mono (dI (dI hE hW0) n0);refine bT4 n0 h2 (cR (cG hW aGv) ?_);unfold EE;decide +kernel
theorem bPm{k:Nat}(hk:k<n):Ng (z k) (999/1000):=by
 have e:=hzw k hk;have b:=hw.at_ k hk;refine⟨by decide +kernel,?_⟩;have e2:(z k).nsq*(w k).nsq=1:=by rw[<-Cp.nsq_mul,e];unfold Cp.nsq;simp only[Cp.one_re,Cp.one_im];grind
 have r2:lD*lD<=1001/1000:=by have a:=uJ;have c:=yT;have:=aC a a (cR (by decide) c) (by decide +kernel);refine cR this ?_;decide +kernel
 have hb:=cR b.2 r2;have hz0:=(z k).nsq_nonneg;refine Rat.not_lt.1 λhl=>?_
 have h1:=dI hb hz0;rw[e2]at h1;grind
theorem aO0{a:Cp}{r c:Rat}(hr:Nm a r)(hc:r+(lD-1)<=c):∀k,k<=3->Nm (csm (λi=>cC (pC a c k) (z i)) n-C9 (n:Rat)*(-a).pw k) ((n:Rat)*((1+c)^k*EE))
 |0,_=>by have e:csm (λi=>cC (pC a c 0) (z i)) n=C9 (n:Rat):=aOe n;rw[e];show Nm (C9 (n:Rat)-C9 (n:Rat)*O9) _;rw[Cp.mul_one,Cp.sub_self,Rat.pow_zero,Rat.one_mul];exact jM.mono (bU (by exact_mod_cast Nat.zero_le n) aGv)
 |k+1,h=>by
  have n0:(0:Rat)<=(n:Rat):=by exact_mod_cast Nat.zero_le n
  have ih:=aO0 hr hc k (by omega);have c0:0<=c:=by have:=hr.1;have:=yT;grind
  have ac:r<=c:=by have:=yT;grind
  have h1:=tD hz hn (pC a c k) (aP0 hr hc k) 1 (L9 1);have hE:eL uL 1 (pC a c k)<=EE:=aGj (by omega) (by rw[aKc];omega) (by rw[aKd];exact cR (eU (by decide +kernel) (show k<=3 by omega)) (by decide +kernel));have W0:0<=(1+c)^k:=Rat.pow_nonneg (by grind);have h2:=h1.mono (dI (dI hE (by rw[aTj];exact W0)) n0);rw[aTj]at h2;have h3:=(hr.neg.mono ac).mul ih;have e:csm (λi=>cC (pC a c (k+1)) (z i)) n-C9 (n:Rat)*(-a).pw (k+1)=csm (λi=>(z i).pw 1*cC (pC a c k) (z i)) n+-a*(csm (λi=>cC (pC a c k) (z i)) n-C9 (n:Rat)*(-a).pw k):=by
   have e1:csm (λi=>cC (pC a c (k+1)) (z i)) n=csm (λi=>(z i).pw 1*cC (pC a c k) (z i)) n+-a*csm (λi=>cC (pC a c k) (z i)) n:=by
    rw[<-lR,<-oN];refine cA λi _=>?_
    show(z i-a)*cC (pC a c k) (z i)=_;rw[Cp.pw_one,Cp.sub_eq,Cp.add_mul]
   rw[e1,Cp.mul_sub];simp only[Cp.pw];rw[show -a*(C9 (n:Rat)*(-a).pw k)=C9 (n:Rat)*((-a).pw k*-a) by rw[Cp.mul_left_comm,Cp.mul_comm (-a)]];exact E9 (by simp only[Cp.add_re,S9];grind) (by simp only[Cp.add_im,T9];grind)
  rw[e];refine(h2.add h3).mono ?_;rw[Rat.pow_succ];generalize (1+c)^k=P;grind
end
theorem bIh{a b c:Rat}(hc:0<c)(h:a*c<=b):a<=b/c:=by rw[Rat.div_def];have:=cG h (bN (Rat.inv_pos.2 hc));rwa[Rat.mul_assoc,Rat.mul_inv_cancel _ (by grind),Rat.mul_one]at this
theorem aHa{a b c:Rat}(hc:0<c)(h:a<=b*c):a/c<=b:=by rw[Rat.div_def];have:=cG h (bN (Rat.inv_pos.2 hc));rwa[Rat.mul_assoc,Rat.mul_inv_cancel _ (by grind),Rat.mul_one]at this
theorem xM{a:Rat}(h:0<a):∀n:Nat,0<a^n
 |0=>by rw[Rat.pow_zero];decide
 |n+1=>by rw[Rat.pow_succ];exact Rat.mul_pos (xM h n) h
theorem aDh(a b:Rat):∀n:Nat,(a*b)^n=a^n*b^n
 |0=>by rw[Rat.pow_zero,Rat.pow_zero,Rat.pow_zero,Rat.one_mul]
 |n+1=>by rw[Rat.pow_succ,Rat.pow_succ,Rat.pow_succ,aDh a b n];grind
theorem bAq{a b:Rat}(h0:0<=a)(h:a<=b)(n:Nat):a^n<=b^n:=vI h0 h n
theorem bVh{u v p q:Rat}(x1:u*u=p)(x2:v*v=q):7/10*(u+v)*(7/10*(u+v))<=p+q:=by have x3:=aT (u-v);have x4:=aT u;have x5:=aT v;grind
theorem seven{x y:Rat}:7/10*(x.abs+y.abs)*(7/10*(x.abs+y.abs))<=x*x+y*y:=bVh (oL x) (oL y)
theorem uU{a c:Rat}(h:c≠0):a/c*c=a:=by rw[Rat.div_def,Rat.mul_assoc,Rat.inv_mul_cancel _ h,Rat.mul_one]
theorem bDr{A P x y t:Rat}(h:x*P≠0)(e:t*x=y):A/(x*P)*(y*P)=A*t:=by
 have:=uU (a:=A) h;rw[<-e];generalize A/(x*P)=D at *
 grind
section
variable{n:Nat}{z w:Nat->Cp}(hz:Pts lD uL n z)(hw:Pts lD uL n w)(hzw:∀k,k<n->z k*w k=O9)(hn:0<n){s:Sd}{κ:Cp}{V:Nat->Cp}{l:Nat->Rat}{m:Rat}
include hz hw hzw hn
theorem aMi{x:Nat->Cp}(hx:Pts lD uL n x){q:Nat}(h9:q<=128){k:Nat}(hk:k<n):Nm ((x k).pw q) (1+1/100000):=(xV (hx.at_ k hk) q).mono (aKe h9)
theorem aFp(h:aNx s)(g:Elw n z w s κ V l m):∃B,Nm κ B/\B*s.W<=600*m:=by
 have m0:=g.m0 hn;have n0:(0:Rat)<(n:Rat):=by exact_mod_cast hn
 cases h with
 |inn b q h h1 h9=>
  have far:=aYp hz hw hzw hn h h9 hw;have e:csm (λk=>(z k).pw q*(Sd.inn b qB q).at_ (z k) (w k)) n=csm (λk=>cC (jU b qB q) (w k)) n:=cA λk hk=>by show(z k).pw q*((w k).pw q*((Fc.geo b qB).at (w k)).pw q)=_;rw[<-M9,<-Cp.pw_mul,hzw k hk,Cp.pw_unit,Cp.one_mul,uI]
  rw[<-e]at far;have:=g.size hn (λk hk=>aMi hz hw hzw hn hz (show q<=128 by omega) hk) (by decide +kernel) far;refine⟨_,this,?_⟩;have hW:(Sd.inn b qB q).W<=593:=by show wL (jU b qB q)<=593;rw[aCm];exact aYr h9
  have B0:0<=1001/1000*m/(999/1000):=this.1;refine cR (dI hW B0) ?_;rw[Rat.div_def,show((999:Rat)/1000)⁻¹=1000/999 by decide +kernel];grind
 |out b q h h9=>
  have far:=aYp hz hw hzw hn h h9 hz;have e:csm (λk=>(z k).pw 0*(Sd.out (jU b qB q)).at_ (z k) (w k)) n=csm (λk=>cC (jU b qB q) (z k)) n:=cA λk hk=>by show O9*cC (jU b qB q) (z k)=_;rw[Cp.one_mul]
  rw[<-e]at far;have:=g.size hn (λk hk=>aMi hz hw hzw hn hz (show 0<=128 by omega) hk) (by decide +kernel) far;refine⟨_,this,?_⟩;have hW:(Sd.out (jU b qB q)).W<=593:=by show wL (jU b qB q)<=593;rw[aCm];exact aYr h9
  have B0:0<=1001/1000*m/(999/1000):=this.1;refine cR (dI hW B0) ?_;rw[Rat.div_def,show((999:Rat)/1000)⁻¹=1000/999 by decide +kernel];grind
 |lin a r k hr h3=>
  have r0:0<=r:=by rw[hr];have:=aH a.re;have:=aH a.im;grind
  have hW:(Sd.out (pC a (r+1/1000) k)).W=(1+(r+1/1000))^k:=aTj a _ k;rw[hW];have hnm:Nm a r:=by rw[hr];exact aSw a
  have hc:r+(lD-1)<=r+1/1000:=by rw[hr];exact bMo a
  rcases(Rat.le_total:3/5<=r\/r<=3/5) with hr3|hr3
  ·have gg:Ng (-a) (7/10*r):=by
    refine⟨by grind,?_⟩;have e:(-a).nsq=a.re*a.re+a.im*a.im:=by unfold Cp.nsq;simp only[Cp.neg_re,Cp.neg_im];grind
    rw[e,hr];exact seven
   have G:=yR gg k;have G0:0<(7/10*r)^k:=xM (by grind) k;have hl:=aO0 hz hw hzw hn hnm hc k h3;have ratio:(1+(r+1/1000))^k<=56*(7/10*r)^k:=by have e1:(1+(r+1/1000))^k<=(382/100*(7/10*r))^k:=bAq (by grind) (by grind) k;rw[aDh]at e1;refine cR e1 (cG ?_ (bN G0));exact cR (eU (by decide +kernel) h3) (by decide +kernel)
   have big:Ng (csm (λi=>cC (pC a (r+1/1000) k) (z i)) n) ((n:Rat)*(999/1000*(7/10*r)^k)):=by
    have a1:Ng (C9 (n:Rat)*(-a).pw k) ((n:Rat)*(7/10*r)^k):=by refine Ng.mul ⟨bN n0,?_⟩ G;unfold Cp.nsq;simp only[Cp.of_re,Cp.of_im];grind
    have small:(1+(r+1/1000))^k*EE<=1/1000*(7/10*r)^k:=by have i1:=cG ratio aGv;have i2:=dI bJq (bN G0);grind
    have i3:=dI small (bN n0);have p1:=Rat.mul_pos n0 G0;have:=oG a1 hl (by grind);have e:C9 (n:Rat)*(-a).pw k+(csm (λi=>cC (pC a (r+1/1000) k) (z i)) n-C9 (n:Rat)*(-a).pw k)=csm (λi=>cC (pC a (r+1/1000) k) (z i)) n:=E9 (by simp only[Cp.add_re,S9];grind) (by simp only[Cp.add_im,T9];grind);rw[e]at this;exact this.mono (by grind) (by grind)
   have e:csm (λi=>(z i).pw 0*(Sd.out (pC a (r+1/1000) k)).at_ (z i) (w i)) n=csm (λi=>cC (pC a (r+1/1000) k) (z i)) n:=cA λi hi=>by show O9*cC (pC a (r+1/1000) k) (z i)=_;rw[Cp.one_mul]
   rw[<-e]at big;have G1:0<999/1000*(7/10*r)^k:=by grind
   have:=g.size hn (λi hi=>aMi hz hw hzw hn hz (show 0<=128 by omega) hi) G1 big;refine⟨_,this,?_⟩;refine cR (dI ratio this.1) ?_;have e3:1001/1000*m/(999/1000*(7/10*r)^k)*(56*(7/10*r)^k)=1001/1000*m*(56*(1000/999)):=by exact bDr (by grind) (by decide +kernel)
   rw[e3];grind
  ·obtain⟨i,hi,hlow⟩:=bA4 (f:=λk=>l k+dE*(l k+m)) (c:=1001/1000*m) hn (by
    rw[tN,jD,tN,kC,g.sum];have nm0:=bU (bN n0) m0;have d:=cG bKz nm0;generalize hN:(n:Rat)*m=N at *
    rw[show(n:Rat)*(1001/1000*m)=1001/1000*N by rw[<-hN];grind];grind)
   have hp:=(g.phi hi).mono hlow;have far:Ng (z i-a) (399/1000):=by have a1:=bPm hz hw hzw hn hi;have:=oG a1 hnm.neg (by grind);rw[<-Cp.sub_eq]at this;exact this.mono (by decide +kernel) (by grind)
   have hq:Ng ((Sd.out (pC a (r+1/1000) k)).at_ (z i) (w i)) ((399/1000)^k):=by show Ng (cC (pC a (r+1/1000) k) (z i)) _;rw[aAo];exact yR far k
   have G0:(0:Rat)<(399/1000)^k:=xM (by decide +kernel) k;have hB:Nm κ (1001/1000*m/(399/1000)^k):=by
    refine aE3 hq G0 ?_;rw[Cp.mul_comm];have e:(399/1000:Rat)^k*(1001/1000*m/(399/1000)^k)=1001/1000*m:=by rw[Rat.mul_comm];exact uU (by grind)
    rw[e];exact hp
   refine⟨_,hB,?_⟩;have ratio:(1+(r+1/1000))^k<=65*(399/1000)^k:=by have e1:(1+(r+1/1000))^k<=(4013/1000*(399/1000))^k:=bAq (by grind) (by grind) k;rw[aDh]at e1;refine cR e1 (cG ?_ (bN G0));exact cR (eU (by decide +kernel) h3) (by decide +kernel)
   refine cR (dI ratio hB.1) ?_;have e3:1001/1000*m/(399/1000)^k*(65*(399/1000)^k)=1001/1000*m*65:=by
    have:=uU (a:=1001/1000*m) (c:=(399/1000:Rat)^k) (by grind);generalize ((399:Rat)/1000)^k=P at *
    generalize 1001/1000*m/P=D at *
    grind
   rw[e3];grind
end
theorem zJ:∀n,csm (λ_=>Z9) n=Z9
 |0=>rfl
 |n+1=>by show csm (λ_=>Z9) n+Z9=_;rw[zJ n,Cp.add_zero]
theorem zI(f:Nat->Nat->Cp)(N:Nat):∀n,csm (λk=>csm (λi=>f i k) N) n=csm (λi=>csm (λk=>f i k) n) N
 |0=>by show Z9=csm (λi=>Z9) N;rw[zJ]
 |n+1=>by show csm (λk=>csm (λi=>f i k) N) n+csm (λi=>f i n) N=_;rw[zI f N n,<-oN];rfl
theorem aTo(f:Nat->Nat->Rat)(N:Nat):∀n,rsm (λk=>rsm (λi=>f i k) N) n=rsm (λi=>rsm (λk=>f i k) n) N
 |0=>by show(0:Rat)=rsm (λi=>(0:Rat)) N;rw[kC];grind
 |n+1=>by show rsm (λk=>rsm (λi=>f i k) N) n+rsm (λi=>f i n) N=_;rw[aTo f N n,<-tN];rfl
theorem aD7(f g:Nat->Cp)(N:Nat):csm f N*csm g N=csm (λi=>csm (λj=>f i*g j) N) N:=by
 have e:(λi=>csm (λj=>f i*g j) N)=λi=>csm g N*f i:=by funext i;rw[lR,Cp.mul_comm]
 rw[e,lR,Cp.mul_comm]
theorem aP1(f g:Nat->Rat)(N:Nat):rsm f N*rsm g N=rsm (λi=>rsm (λj=>f i*g j) N) N:=by
 have e:(λi=>rsm (λj=>f i*g j) N)=λi=>rsm g N*f i:=by funext i;rw[jD,Rat.mul_comm]
 rw[e,jD,Rat.mul_comm]
theorem kQ(a:Cp)(f:Nat->Cp)(n:Nat):a*csm f n=csm (λk=>a*f k) n:=(lR a f n).symm
theorem aZq{f:Nat->Rat}{n:Nat}{M U:Rat}(hn:0<n)(h1:rsm f n=(n:Rat)*M)(h2:rsm (λk=>f k*f k) n=(n:Rat)*U):M*M<=U:=by
 have n0:(0:Rat)<(n:Rat):=by exact_mod_cast hn
 have h:=eZ (f:=λk=>(f k-M)*(f k-M)) (n:=n) λk _=>aT _
 have e:rsm (λk=>(f k-M)*(f k-M)) n=rsm (λk=>f k*f k) n+(-2*M)*rsm f n+(n:Rat)*(M*M):=by rw[<-jD,<-kC,<-tN,<-tN];congr 1;funext k;grind
 rw[e,h1,h2]at h;refine Rat.not_lt.1 λhl=>?_
 have:=Rat.mul_lt_mul_of_pos_left hl n0;grind
def aWl(n N:Nat)(z w:Nat->Cp)(s:Nat->Sd)(f:Nat->Cp)(P:Nat->Nat->Cp)(E:Rat):Prop:=∀i,i<N->∀j,j<N->Nm (csm (λk=>f k*((s i).at_ (z k) (w k)*(s j).at_ (z k) (w k))) n-C9 (n:Rat)*P i j) ((n:Rat)*((s i).W*(s j).W*E))
def cS:Rat:=25/100000000
section
variable{n N:Nat}{z w:Nat->Cp}(hz:Pts lD uL n z)(hw:Pts lD uL n w)(hzw:∀k,k<n->z k*w k=O9)(hn:0<n){s:Nat->Sd}{κ:Nat->Cp}{V:Nat->Nat->Cp}{l:Nat->Nat->Rat}{m:Nat->Rat}(hs:∀i,i<N->aNx (s i))(hE:∀i,i<N->Elw n z w (s i) (κ i) (V i) (l i) (m i))
include hz hw hzw hn hs hE
theorem aVs{f:Nat->Cp}{P:Nat->Nat->Cp}{E:Rat}(E0:0<=E)(hP:aWl n N z w s f P E):Nm (csm (λk=>f k*(csm (λi=>κ i*(s i).at_ (z k) (w k)) N*csm (λi=>κ i*(s i).at_ (z k) (w k)) N)) n-C9 (n:Rat)*csm (λi=>csm (λj=>κ i*κ j*P i j) N) N) ((n:Rat)*(360000*E*(rsm m N*rsm m N))):=by
 have n0:(0:Rat)<(n:Rat):=by exact_mod_cast hn
 have hp:∀i,i<N->∀j,j<N->Nm (csm (λk=>f k*(κ i*(s i).at_ (z k) (w k)*(κ j*(s j).at_ (z k) (w k)))) n-C9 (n:Rat)*(κ i*κ j*P i j)) ((n:Rat)*(360000*E*(m i*m j))):=λi hi j hj=>by
  obtain⟨B,hB,hBW⟩:=aFp hz hw hzw hn (hs i hi) (hE i hi);obtain⟨C,hC,hCW⟩:=aFp hz hw hzw hn (hs j hj) (hE j hj);have h1:=hP i hi j hj;have h2:=(hB.mul hC).mul h1;have e:κ i*κ j*(csm (λk=>f k*((s i).at_ (z k) (w k)*(s j).at_ (z k) (w k))) n-C9 (n:Rat)*P i j)=csm (λk=>f k*(κ i*(s i).at_ (z k) (w k)*(κ j*(s j).at_ (z k) (w k)))) n-C9 (n:Rat)*(κ i*κ j*P i j):=by
   rw[Cp.mul_sub,<-lR,Cp.mul_left_comm (κ i*κ j) (C9 (n:Rat))];congr 1;refine cA λk _=>?_
   generalize (s i).at_ (z k) (w k)=a;generalize (s j).at_ (z k) (w k)=b;rw[Cp.mul_left_comm (κ i*κ j) (f k),M9 (κ i),Cp.mul_left_comm (κ j) a b,<-M9 (κ i) a]
  rw[e]at h2;refine h2.mono ?_;have w0:0<=C*(s j).W:=by
   refine bU hC.1 ?_;have ok:=(hs j hj).ok;cases hsj:s j with
   |inn b qb q=>rw[hsj]at ok;exact cR (by decide) (gH hw.one (kN ok.1 q) (hw.at_ 0 hn)).2
   |out L=>rw[hsj]at ok;exact cR (by decide) (gH hz.one ok.1 (hz.at_ 0 hn)).2
  have mi:=(hE i hi).m0 hn;have i1:=aC hBW hCW w0 (show 0<=600*m i by grind);have i2:=cG i1 E0;have i3:=dI i2 (bN n0);have e5:B*C*((n:Rat)*((s i).W*(s j).W*E))=(n:Rat)*(B*(s i).W*(C*(s j).W)*E):=by grind
  have e6:(n:Rat)*(600*m i*(600*m j)*E)=(n:Rat)*(360000*E*(m i*m j)):=by grind
  rw[e5,<-e6];exact i3
 have h:=jE (n:=N) (f:=λi=>csm (λj=>csm (λk=>f k*(κ i*(s i).at_ (z k) (w k)*(κ j*(s j).at_ (z k) (w k)))) n-C9 (n:Rat)*(κ i*κ j*P i j)) N) (r:=λi=>rsm (λj=>(n:Rat)*(360000*E*(m i*m j))) N) λi hi=>jE λj hj=>hp i hi j hj
 have er:rsm (λi=>rsm (λj=>(n:Rat)*(360000*E*(m i*m j))) N) N=(n:Rat)*(360000*E*(rsm m N*rsm m N)):=by rw[aP1,<-jD,<-jD];congr 1;funext i;rw[jD,jD]
 rw[er]at h;have ef:csm (λi=>csm (λj=>csm (λk=>f k*(κ i*(s i).at_ (z k) (w k)*(κ j*(s j).at_ (z k) (w k)))) n-C9 (n:Rat)*(κ i*κ j*P i j)) N) N =
   csm (λk=>f k*(csm (λi=>κ i*(s i).at_ (z k) (w k)) N*csm (λi=>κ i*(s i).at_ (z k) (w k)) N)) n-C9 (n:Rat)*csm (λi=>csm (λj=>κ i*κ j*P i j) N) N:=by
  have e1:csm (λk=>f k*(csm (λi=>κ i*(s i).at_ (z k) (w k)) N*csm (λi=>κ i*(s i).at_ (z k) (w k)) N)) n=csm (λi=>csm (λj=>csm (λk=>f k*(κ i*(s i).at_ (z k) (w k)*(κ j*(s j).at_ (z k) (w k)))) n) N) N:=by
   have e2:∀k,f k*(csm (λi=>κ i*(s i).at_ (z k) (w k)) N*csm (λi=>κ i*(s i).at_ (z k) (w k)) N)=csm (λi=>csm (λj=>f k*(κ i*(s i).at_ (z k) (w k)*(κ j*(s j).at_ (z k) (w k)))) N) N:=λk=>by rw[aD7,kQ];exact cA λi _=>kQ _ _ _
   rw[cA (n:=n) λk _=>e2 k,zI];exact cA λi _=>zI _ _ _
  rw[e1,<-lR,<-tJ];refine cA λi _=>?_
  rw[tJ,lR]
 rw[ef]at h;exact h
end
theorem bVr{S M:Rat}(hS:0<=S)(hM:0<=M):(1+1/100000)*(dE*(S+M)*(S+(S+dE*(S+M))))<=dE*(5*(S*S+M*M)):=by
 have h1:=aT (S-M);have h2:=aT S;have h3:=aT M;have h4:=bU hS hM;have d:=bKz;have d0:=aRd;have e:(S+M)*(S+(S+dE*(S+M)))<=4*(S*S+M*M):=by
  have q:(S+M)*(S+M)<=2*(S*S+M*M):=by grind
  have q0:=aT (S+M);have i:=cG d q0;grind
 have i:=dI e d0;have e2:dE*(S+M)*(S+(S+dE*(S+M)))=dE*((S+M)*(S+(S+dE*(S+M)))):=by rw[Rat.mul_assoc]
 rw[e2];have q:=bU d0 (show 0<=S*S+M*M by grind);generalize dE*((S+M)*(S+(S+dE*(S+M))))=A at *
 grind
section
variable{n N:Nat}{z w:Nat->Cp}(hz:Pts lD uL n z)(hw:Pts lD uL n w)(hzw:∀k,k<n->z k*w k=O9)(hn:0<n){s:Nat->Sd}{κ:Nat->Cp}{V:Nat->Nat->Cp}{l:Nat->Nat->Rat}{m:Nat->Rat}(hs:∀i,i<N->aNx (s i))(hE:∀i,i<N->Elw n z w (s i) (κ i) (V i) (l i) (m i))
include hz hw hzw hn hs hE
theorem bCe{k:Nat}(hk:k<n):Nm (csm (λi=>V i k) N) (rsm (λi=>l i k) N):=jE λi hi=>(hE i hi).len k hk
theorem bPj{k:Nat}(hk:k<n):Nm (csm (λi=>V i k) N-csm (λi=>κ i*(s i).at_ (z k) (w k)) N) (dE*(rsm (λi=>l i k) N+rsm m N)):=by
 have h:=jE (n:=N) (f:=λi=>V i k-κ i*(s i).at_ (z k) (w k)) (r:=λi=>dE*(l i k+m i)) λi hi=>(hE i hi).err k hk
 rw[tJ,jD,tN]at h;exact h
theorem bCf:rsm (λk=>rsm (λi=>l i k) N) n=(n:Rat)*rsm m N:=by
 rw[aTo,<-jD];have key:∀j,j<=N->rsm (λi=>rsm (λk=>l i k) n) j=rsm (λi=>(n:Rat)*m i) j:=by
  intro j;induction j with
  |zero=>intro _;rfl
  |succ j ih=>intro hj;show rsm (λi=>rsm (λk=>l i k) n) j+rsm (λk=>l j k) n=rsm (λi=>(n:Rat)*m i) j+(n:Rat)*m j;rw[ih (by omega),(hE j (by omega)).sum]
 exact key N (L9 N)
theorem cBd:0<=rsm m N:=eZ λi hi=>(hE i hi).m0 hn
theorem bNq{f:Nat->Cp}{P:Nat->Nat->Cp}{E:Rat}(hf:∀k,k<n->Nm (f k) (1+1/100000))(E0:0<=E)(E1:E<=1001/1000*EE)(hP:aWl n N z w s f P E){U:Rat}(hU:rsm (λk=>rsm (λi=>l i k) N*rsm (λi=>l i k) N) n=(n:Rat)*U):
  Nm (csm (λk=>f k*(csm (λi=>V i k) N*csm (λi=>V i k) N)) n-C9 (n:Rat)*csm (λi=>csm (λj=>κ i*κ j*P i j) N) N) ((n:Rat)*(cS*U)):=by
 have n0:(0:Rat)<(n:Rat):=by exact_mod_cast hn
 have hM:=aZq hn (bCf hz hw hzw hn hs hE) hU;have M0:=cBd hz hw hzw hn hs hE;have hp:=aVs hz hw hzw hn hs hE E0 hP;have hd:=jE (n:=n) (f:=λk=>f k*(csm (λi=>V i k) N*csm (λi=>V i k) N)-f k*(csm (λi=>κ i*(s i).at_ (z k) (w k)) N*csm (λi=>κ i*(s i).at_ (z k) (w k)) N))
  (r:=λk=>dE*(5*(rsm (λi=>l i k) N*rsm (λi=>l i k) N+rsm m N*rsm m N))) λk hk=>by
  have a:=bCe hz hw hzw hn hs hE hk;have b:=bPj hz hw hzw hn hs hE hk;have c:=hf k hk;generalize csm (λi=>V i k) N=X at *
  generalize csm (λi=>κ i*(s i).at_ (z k) (w k)) N=Q at *
  generalize rsm (λi=>l i k) N=S at *
  have d:=c.mul (b.mul (a.add (a.add b.comm)));have e:f k*(X*X)-f k*(Q*Q)=f k*((X-Q)*(X+(X+(Q-X)))):=by have e1:X+(Q-X)=Q:=E9 (by simp only[Cp.add_re,S9];grind) (by simp only[Cp.add_im,T9];grind);rw[e1,<-Cp.mul_sub,Cp.sub_mul,Cp.mul_add,Cp.mul_add,Cp.mul_comm Q X];congr 1;exact E9 (by simp only[Cp.add_re,S9];grind) (by simp only[Cp.add_im,T9];grind)
  rw[e];exact d.mono (bVr a.1 M0)
 rw[tJ]at hd;refine(hd.tri hp).mono ?_;rw[jD,jD,tN,kC,hU];have i1:=dI hM (bN n0);have U0:0<=U:=cR (aT _) hM;have A0:=bU (bN n0) (aT (rsm m N));have e1:(n:Rat)*(360000*E*(rsm m N*rsm m N))=(n:Rat)*(rsm m N*rsm m N)*(360000*E):=by grind
 have e2:(n:Rat)*(cS*U)=(n:Rat)*U*cS:=by grind
 rw[e1,e2];generalize (n:Rat)*(rsm m N*rsm m N)=A at *
 generalize (n:Rat)*U=B at *
 unfold EE at E1;have:=dI E1 A0;unfold cS dE;grind
end
theorem bI6{V X:Cp}{δ l:Rat}(h:Rl V X δ)(d0:0<=δ)(hd:δ<=1/1000)(hl:Nm V l):Nm (V-X) (101/100*δ*l):=by
 obtain⟨e,e1,rfl⟩:=h;have g:=aSv e1 (show δ<=1 by grind);have p:0<1-δ:=by grind
 have hX:Nm X (l/(1-δ)):=by refine aE3 g p ?_;rw[Rat.mul_comm,uU (by grind),Cp.mul_comm];exact hl
 have e2:X*(O9+e)-X=X*e:=by rw[Cp.mul_add,Cp.mul_one];exact E9 (by simp only[Cp.add_re,S9];grind) (by simp only[Cp.add_im,T9];grind)
 rw[e2];refine(hX.mul e1).mono ?_;have l0:=hl.1;have q:l/(1-δ)<=101/100*l:=aHa p (by have:=dI (show δ<=1/1000 from hd) l0;grind);have:=cG q d0;grind
theorem bFt{z Z:Cp}{δ:Rat}(h:Rl z Z δ)(d0:0<=δ):∀m:Nat,(m:Rat)*δ<=1/100->Rl (z.pw m) (Z.pw m) ((m:Rat)*δ*(1+(m:Rat)*δ))
 |0,_=>by show Rl O9 O9 _;refine Rl.refl _ ?_;rw[show((0:Nat):Rat)=0 from rfl];grind
 |m+1,hm=>by
  have c:((m+1:Nat):Rat)=(m:Rat)+1:=by push_cast;rfl
  rw[c]at hm⊢;have m0:(0:Rat)<=(m:Rat):=by exact_mod_cast Nat.zero_le m
  have ih:=bFt h d0 m (by grind);refine((ih.mul h)).mono ?_;have a:=bU m0 d0;have b:=bU a d0;have c1:=cG (show(m:Rat)*δ<=1/100 by grind) b;have c2:=bU d0 d0;generalize hX:(m:Rat)*δ=X at *
  have e1:((m:Rat)+1)*δ=X+δ:=by grind
  rw[e1];grind
theorem aM5{R X c d a:Rat}(R1:1<=R)(R2:R<=2000)(bb:eps/4*(1002*R)<=1/1000*R)(h:(X-(c+d)).abs<=eps/4*(1002*R))(hc:c.abs<=1000)(hd:d.abs<=1001/1000*R)(ha:a.abs<=1000):(X-a).abs<=2003*R/\(X-a).abs<=4005:=by
 have e1:=aL (X-(c+d)) (c+d-a);have e2:=aL c (d-a);have e3:=aL d (-a);rw[show X-(c+d)+(c+d-a)=X-a by grind]at e1;rw[show c+(d-a)=c+d-a by grind]at e2;rw[show d+-a=d-a by grind,abs_neg]at e3;generalize (X-a).abs=A at *
 generalize (X-(c+d)).abs=B at *
 generalize (c+d-a).abs=C at *
 generalize (d-a).abs=F at *
 generalize c.abs=G at *
 generalize d.abs=H at *
 generalize a.abs=I at *
 constructor<;>grind
theorem bJa{R E1 Y:Rat}(R2:R<=2000)(b:eps/4*(2003*R)<=1/1000*R)(g:(E1-Y).abs<=eps/4*(2003*R))(h:Y.abs<=4005):E1.abs<=4100:=by have:=aL (E1-Y) Y;rw[show E1-Y+Y=E1 by grind]at this;grind
theorem aTv{R E X c d a:Rat}(er:0<=eps*R)(inv0:0<=R⁻¹)(ri:R⁻¹*R=1)(h:(X-(c+d)).abs<=eps/4*(1002*R))(g:(E-(X-a)).abs<=eps/4*(2003*R)):(R⁻¹*E-(R⁻¹*d-R⁻¹*(a-c))).abs<=7513/10*eps:=by
 have e1:=aL (E-(X-a)) (X-(c+d));rw[show E-(X-a)+(X-(c+d))=E-(d-(a-c)) by grind]at e1;have e2:R⁻¹*E-(R⁻¹*d-R⁻¹*(a-c))=R⁻¹*(E-(d-(a-c))):=by grind
 rw[e2,bD,fZ inv0];have:=dI (show(E-(d-(a-c))).abs<=R*(7513/10*eps) by grind) inv0;rw[<-Rat.mul_assoc,ri,Rat.one_mul]at this;exact this
section
variable{c1 c2 a1 a2 x1 x2:Nat}{cx cy ax ay:Int}{R:Rat}{D o:Cp}
theorem bFk(hc:IsC c1 c2 cx cy)(b1:cx.natAbs<=1000)(b2:cy.natAbs<=1000)(R1:1<=R)(R2:R<=2000)(hD:IsZ x1 x2 D)(dD:Nm D (1001/1000*R)):
  ∃z1 z2 Z,IsZ z1 z2 Z/\Nm Z 10000/\(Z.re-((cx:Rat)+D.re)).abs<=eps/4*(1002*R)/\(Z.im-((cy:Rat)+D.im)).abs<=eps/4*(1002*R)/\∀(T:Type)(K:KNN T),jJ T c1 c2 x1 x2 K=K z1 z2:=by
 have n1:=kJ (n:=cx) (N:=1000) b1;have n2:=kJ (n:=cy) (N:=1000) b2;have o3:(((1000:Nat):Int):Rat)=1000:=rfl;rw[o3]at n1 n2;have et:=bR;have d1:=dD.re;have d2:=dD.im;have s1:((cx:Rat)+D.re).abs<=1002*R:=by have:=aL (cx:Rat) D.re;grind
 have s2:((cy:Rat)+D.im).abs<=1002*R:=by have:=aL (cy:Rat) D.im;grind
 have t1:((cx:Rat)+D.re).abs<=3002:=by have:=aL (cx:Rat) D.re;grind
 have t2:((cy:Rat)+D.im).abs<=3002:=by have:=aL (cy:Rat) D.im;grind
 obtain⟨z1,Z1,e1,i1,q1⟩:=mJ hc.1 hD.1 (kL (by grind));obtain⟨z2,Z2,e2,i2,q2⟩:=mJ hc.2 hD.2 (kL (by grind));have hB:(2:Rat)^(-1000:Int)<=1002*R:=cR mZ (by grind);have r1:=vV q1 s1 hB;have r2:=vV q2 s2 hB;have bb:eps/4*(1002*R)<=1:=by have:=cG et (show 0<=1002*R by grind);grind
 refine⟨z1,z2,⟨Z1,Z2⟩,⟨i1,i2⟩,?_,r1,r2,λT K=>by unfold jJ;rw[aK e1,aK e2]⟩;have u1:Z1.abs<=3003:=by have:=aL (Z1-((cx:Rat)+D.re)) ((cx:Rat)+D.re);rw[show Z1-((cx:Rat)+D.re)+((cx:Rat)+D.re)=Z1 by grind]at this;grind
 have u2:Z2.abs<=3003:=by have:=aL (Z2-((cy:Rat)+D.im)) ((cy:Rat)+D.im);rw[show Z2-((cy:Rat)+D.im)+((cy:Rat)+D.im)=Z2 by grind]at this;grind
 exact(aJq (a:=⟨Z1,Z2⟩) u1 u2).mono (by decide +kernel)
theorem aM4{z1 z2:Nat}{Z:Cp}(ha:IsC a1 a2 ax ay)(b1:ax.natAbs<=1000)(b2:ay.natAbs<=1000)(bc1:cx.natAbs<=1000)(bc2:cy.natAbs<=1000)(R1:1<=R)(R2:R<=2000)(dD:Nm D (1001/1000*R))(hZ:IsZ z1 z2 Z)(nZ:Nm Z 10000)(r1:(Z.re-((cx:Rat)+D.re)).abs<=eps/4*(1002*R))(r2:(Z.im-((cy:Rat)+D.im)).abs<=eps/4*(1002*R)):
  ∃e1 e2 E,aC2 a1 a2 z1 z2 e1 e2 E Z/\Nm E 8000/\Nm (C9 R⁻¹*E-(C9 R⁻¹*D-C9 R⁻¹*gz (ax-cx) (ay-cy))) (1127*eps):=by
 have o3:(((1000:Nat):Int):Rat)=1000:=rfl;have n1:=kJ (n:=cx) (N:=1000) bc1;have n2:=kJ (n:=cy) (N:=1000) bc2;have m1:=kJ (n:=ax) (N:=1000) b1;have m2:=kJ (n:=ay) (N:=1000) b2;rw[o3]at n1 n2 m1 m2;have ep:=bI;have et:=bR;have d1:=dD.re;have d2:=dD.im;have bb:eps/4*(1002*R)<=1/1000*R:=by have:=cG et (show 0<=1002*R by grind);grind
 have p1:=aM5 R1 R2 bb r1 n1 d1 m1;have p2:=aM5 R1 R2 bb r2 n2 d2 m2;obtain⟨e1,E1,f1,i1,q1⟩:=qD hZ.1 ha.1 (kL (by grind));obtain⟨e2,E2,f2,i2,q2⟩:=qD hZ.2 ha.2 (kL (by grind));have hB:(2:Rat)^(-1000:Int)<=2003*R:=cR mZ (by grind);have g1:=vV q1 p1.1 hB;have g2:=vV q2 p2.1 hB;have b2002:eps/4*(2003*R)<=1/1000*R:=by have:=cG et (show 0<=2003*R by grind);grind
 have w1:=bJa R2 b2002 g1 p1.2;have w2:=bJa R2 b2002 g2 p2.2;refine⟨e1,e2,⟨E1,E2⟩,⟨hZ,nZ.mono (by decide +kernel),λT K=>by unfold gJ;rw[aK f1,aK f2],⟨i1,i2⟩⟩,(vG (a:=⟨E1,E2⟩) w1 w2).mono (by decide +kernel),?_⟩;have inv0:0<=R⁻¹:=bN (Rat.inv_pos.2 (by grind));have ri:R⁻¹*R=1:=Rat.inv_mul_cancel _ (by grind);have er:0<=eps*R:=bU (bN ep) (by grind);have z1:=aTv er inv0 ri r1 g1;have z2:=aTv er inv0 ri r2 g2;have cs:((ax-cx:Int):Rat)=(ax:Rat)-(cx:Rat):=by push_cast;rfl
 have cs2:((ay-cy:Int):Rat)=(ay:Rat)-(cy:Rat):=by push_cast;rfl
 have ez:C9 R⁻¹*(⟨E1,E2⟩:Cp)-(C9 R⁻¹*D-C9 R⁻¹*gz (ax-cx) (ay-cy))=⟨R⁻¹*E1-(R⁻¹*D.re-R⁻¹*((ax:Rat)-(cx:Rat))),R⁻¹*E2-(R⁻¹*D.im-R⁻¹*((ay:Rat)-(cy:Rat)))⟩:=by
  rw[Cp.of_mul,Cp.of_mul,Cp.of_mul];refine E9 ?_ ?_;· show R⁻¹*E1-(R⁻¹*D.re-R⁻¹*((ax-cx:Int):Rat))=R⁻¹*E1-(R⁻¹*D.re-R⁻¹*((ax:Rat)-(cx:Rat)));rw[cs]
  ·show R⁻¹*E2-(R⁻¹*D.im-R⁻¹*((ay-cy:Int):Rat))=R⁻¹*E2-(R⁻¹*D.im-R⁻¹*((ay:Rat)-(cy:Rat)));rw[cs2]
 rw[ez];exact(vG (a:=⟨_,_⟩) z1 z2).mono (by grind)
end
end Go.Vx
