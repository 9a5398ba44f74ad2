/- A part; no conditions. -/
import Derived.Test.YtaogignikkjkjaaGreatVmXH
set_option maxRecDepth 1000000
set_option maxHeartbeats 1000000
set_option linter.all false
open Nat renaming le_refl->L9
open Go.Vx.Cp renaming of->C9,zero->Z9,one->O9,mul_assoc->M9,ext'->E9,sub_re->S9,sub_im->T9
open Rat renaming le_refl->R9
namespace Go.Vx
open Go.Vm Ieee
theorem aHp{a b:Cp}{d g:Rat}(hb:Ng b g)(g0:0<g)(h:Nm (a-b) d):Rl a b (d/g):=by have hn:=vF hb g0;obtain⟨i1,_⟩:=sC hb g0 (r:=b.nsq+1) ⟨by have:=b.nsq_nonneg;grind,by have:=b.nsq_nonneg;have:=bU this this;grind⟩ (by have:=b.nsq_nonneg;grind);refine⟨(a-b)*b.inv,(h.mul i1).mono (by rw[Rat.div_def];exact R9),?_⟩;rw[Cp.mul_add,Cp.mul_one,Cp.mul_left_comm,Cp.inv_mul hn,Cp.mul_one];exact E9 (by simp only[Cp.add_re,S9];grind) (by simp only[Cp.add_im,T9];grind)
theorem aZz{a:Cp}{r:Rat}(h:Ng a r):Ng (-a) r:=by
 have e:(-a).nsq=a.nsq:=by unfold Cp.nsq;simp only[Cp.neg_re,Cp.neg_im];grind
 exact⟨h.1,by rw[e];exact h.2⟩
theorem tZ{b x:Cp}(hb:b.nsq≠0)(h:b*x=O9):b.inv=x:=Cp.cancel hb (by rw[Cp.inv_mul hb,h])
theorem bIs{x:Rat}(h:x≠0):(C9 x).nsq≠0:=by
 unfold Cp.nsq;simp only[Cp.of_re,Cp.of_im];have:=aT x;intro e;have:x*x=0:=by grind
 rcases Rat.mul_eq_zero.1 this with h1|h1<;>exact h h1
theorem bUe{x:Rat}(h:x≠0):(C9 x).inv=C9 x⁻¹:=tZ (bIs h) (by rw[<-Cp.of_mul_of,Rat.mul_inv_cancel _ h];rfl)
theorem bUg:(9:Rat)*(2*(2300*eps))<=1/100:=by rw[oP];decide +kernel
theorem bAn{V C E b:Cp}{R:Rat}{m:Nat}(R1:1<=R)(hm:m<=9)(hb:Ng b (49/100))(hE:Nm (C9 R⁻¹*E-b) (1127*eps))(hV:Rl V (C*E.inv.pw m) (100*eps)):Rl V (C*(C9 R⁻¹).pw m*b.inv.pw m) (42000*eps):=by
 have ep:=bI;have et:=bR;have bn:=vF hb (by decide +kernel);have r1:Rl (C9 R⁻¹*E) b (2300*eps):=(aHp hb (by decide +kernel) hE).mono (aHa (by decide +kernel) (by grind));obtain⟨r2,an⟩:=r1.inv (by grind) bn;have mm:(m:Rat)<=9:=by exact_mod_cast hm
 have m0:(0:Rat)<=(m:Rat):=by exact_mod_cast Nat.zero_le m
 have k0:=bUg;have k1:=cG mm (show 0<=2*(2300*eps) by grind);have r3:=bFt r2 (by grind) m (by grind);have Rn:R≠0:=by grind
 have eE:E=C9 R*(C9 R⁻¹*E):=by rw[<-M9,<-Cp.of_mul_of,Rat.mul_inv_cancel _ Rn];exact(Cp.one_mul E).symm
 have eI:E.inv=C9 R⁻¹*(C9 R⁻¹*E).inv:=by
  conv=>lhs;rw[eE]
  rw[yN (bIs Rn) an,bUe Rn]
 have r4:=(Rl.refl (C*(C9 R⁻¹).pw m) (δ:=0) R9).mul r3;have eV:C*(C9 R⁻¹).pw m*(C9 R⁻¹*E).inv.pw m=C*E.inv.pw m:=by rw[eI,Cp.pw_mul,M9]
 rw[eV]at r4;refine(hV.trans r4).mono ?_;have k2:(m:Rat)*(2*(2300*eps))*(1+(m:Rat)*(2*(2300*eps)))<=41820*eps:=by have:=bU m0 (show 0<=2*(2300*eps) by grind);have:=dI (show 1+(m:Rat)*(2*(2300*eps))<=101/100 by grind) this;grind
 generalize (m:Rat)*(2*(2300*eps))*(1+(m:Rat)*(2*(2300*eps)))=Y at *
 have k4:=cG et (show 0<=41820*eps by grind);have k5:=dI k2 (bN ep);grind
theorem bUf:101/100*(42000*eps)<=dE:=by rw[oP];unfold dE;decide +kernel
theorem aZ1:42000*eps<=1/1000:=by rw[oP];decide +kernel
section
variable{n:Nat}{z w:Nat->Cp}(hz:Pts lD uL n z)(hw:Pts lD uL n w)(hzw:∀k,k<n->z k*w k=O9)(hn:0<n){V E:Nat->Cp}{l:Nat->Rat}{mn R:Rat}{C γ:Cp}{m:Nat}(R1:1<=R)(hm1:1<=m)(hm:m<=9)(hE:∀k,k<n->Nm (C9 R⁻¹*E k-(z k-γ)) (1127*eps))(hV:∀k,k<n->Rl (V k) (C*(E k).inv.pw m) (100*eps))(hl:∀k,k<n->Nm (V k) (l k))(hs:rsm l n=(n:Rat)*mn)
include hz hw hzw hn R1 hm1 hm hE hV hl hs
theorem bTv:0<=mn:=by
 have h1:=eZ (f:=l) (n:=n) λk hk=>(hl k hk).1
 rw[hs]at h1;have n0:(0:Rat)<(n:Rat):=by exact_mod_cast hn
 refine Rat.not_lt.1 λhl=>?_
 have:=Rat.mul_lt_mul_of_pos_left hl n0;grind
theorem bHq{k:Nat}(hk:k<n){X:Cp}(h:Rl (V k) X (42000*eps)):Nm (V k-X) (dE*(l k+mn)):=by have ep:=bI;have m0:=bTv hz hw hzw hn R1 hm1 hm hE hV hl hs;refine(bI6 h (by grind) aZ1 (hl k hk)).mono ?_;have l0:=(hl k hk).1;have a:=cG bUf l0;have b:=bU aRd m0;grind
theorem bMa(hγ:Nm γ (5075/10000)):aNx (.inn γ qB m)/\Elw n z w (.inn γ qB m) (C*(C9 R⁻¹).pw m) V l mn:=by
 have ok:(Fc.geo γ qB).Ok lD:=⟨5075/10000,hγ,by have:=uJ;unfold qB;grind,by unfold qB;decide +kernel⟩;refine⟨.inn γ m ok hm1 hm,hl,hs,λk hk=>?_⟩;have zg:=bPm hz hw hzw hn hk;have bg:Ng (z k-γ) (49/100):=by have:=oG zg hγ.neg (by decide +kernel);rw[<-Cp.sub_eq]at this;exact this.mono (by decide +kernel) (by decide +kernel)
 have h:=bAn R1 hm bg (hE k hk) (hV k hk);have e:(z k-γ).inv=w k*(Fc.geo γ qB).at (w k):=by refine tZ (vF bg (by decide +kernel)) ?_;have e:=Cp.inv_mul (aEg hw.one ok (hw.at_ k hk)).2.1;rw[<-M9,Cp.sub_mul,hzw k hk];exact e
 rw[e,Cp.pw_mul]at h;exact bHq hz hw hzw hn R1 hm1 hm hE hV hl hs hk h
theorem bNh(hγ:Ng γ (197058/100000)):aNx (.out (jU γ.inv qB m))/\Elw n z w (.out (jU γ.inv qB m)) (C*(C9 R⁻¹).pw m*(-γ.inv).pw m) V l mn:=by
 have gn:=vF hγ (by decide +kernel);have hβ:Nm γ.inv (50747/100000):=by obtain⟨i1,_⟩:=sC hγ (by decide +kernel) (r:=γ.nsq+1) ⟨by have:=γ.nsq_nonneg;grind,by have:=γ.nsq_nonneg;have:=bU this this;grind⟩ (by have:=γ.nsq_nonneg;grind);exact i1.mono (by decide +kernel)
 have ok:(Fc.geo γ.inv qB).Ok lD:=⟨50747/100000,hβ,by have:=uJ;unfold qB;grind,by unfold qB;decide +kernel⟩;refine⟨.out γ.inv m ok hm,hl,hs,λk hk=>?_⟩;have bg:Ng (z k-γ) (49/100):=by have zs:=(hz.at_ k hk).mono (show lD<=101/100 by have:=uJ;grind);have a:=aZz hγ;have:=oG a zs (by decide +kernel);rw[show -γ+z k=z k-γ by rw[Cp.sub_eq,Cp.add_comm]]at this;exact this.mono (by decide +kernel) (by decide +kernel)
 have h:=bAn R1 hm bg (hE k hk) (hV k hk);have gb:=aEg hz.one ok (hz.at_ k hk);have e:(z k-γ).inv=-γ.inv*(Fc.geo γ.inv qB).at (z k):=by
  refine tZ (vF bg (by decide +kernel)) ?_;have e:=Cp.inv_mul gb.2.1;have e2:z k-γ=-γ*(O9-γ.inv*z k):=by
   have:γ*(γ.inv*z k)=z k:=by rw[<-M9,Cp.inv_mul gn,Cp.one_mul]
   rw[Cp.mul_sub,Cp.mul_one];have e3:-γ*(γ.inv*z k)=-(γ*(γ.inv*z k)):=E9 (by simp only[Cp.mul_re,Cp.neg_re,Cp.neg_im];grind) (by simp only[Cp.mul_im,Cp.neg_re,Cp.neg_im];grind);rw[e3,this];exact E9 (by simp only[S9,Cp.neg_re];grind) (by simp only[T9,Cp.neg_im];grind)
  show(z k-γ)*(-γ.inv*(O9-γ.inv*z k).inv)=O9;rw[e2];generalize O9-γ.inv*z k=A at *
  have g2:=Cp.inv_mul gn;have:-γ*A*(-γ.inv*A.inv)=γ*γ.inv*(A*A.inv):=by generalize γ.inv=B;generalize A.inv=D;exact E9 (by simp only[Cp.mul_re,Cp.mul_im,Cp.neg_re,Cp.neg_im];grind) (by simp only[Cp.mul_re,Cp.mul_im,Cp.neg_re,Cp.neg_im];grind)
  rw[this,g2,e,Cp.mul_one]
 rw[e,Cp.pw_mul,<-M9]at h;show Nm (V k-C*(C9 R⁻¹).pw m*(-γ.inv).pw m*cC (jU γ.inv qB m) (z k)) _;rw[uI];exact bHq hz hw hzw hn R1 hm1 hm hE hV hl hs hk h
end
theorem bP5:(Fc.geo Z9 qB).Ok lD:=⟨0,jM,by rw[Rat.zero_mul];unfold qB;decide +kernel,by unfold qB;decide +kernel⟩
theorem aV0{n:Nat}{z w:Nat->Cp}{C:Cp}{V:Nat->Cp}{l:Nat->Rat}{m:Rat}(hn:0<n)(hV:∀k,k<n->V k=C)(hl:∀k,k<n->Nm (V k) (l k))(hs:rsm l n=(n:Rat)*m):
  aNx (.out (jU Z9 qB 0))/\Elw n z w (.out (jU Z9 qB 0)) C V l m:=by
 refine⟨.out Z9 0 bP5 (by omega),hl,hs,λk hk=>?_⟩;have e:V k-C*(Sd.out (jU Z9 qB 0)).at_ (z k) (w k)=Z9:=by show V k-C*O9=Z9;rw[hV k hk,Cp.mul_one,Cp.sub_self]
 rw[e];have m0:0<=m:=by
  have h1:=eZ (f:=l) (n:=n) λk hk=>(hl k hk).1
  rw[hs]at h1;have n0:(0:Rat)<(n:Rat):=by exact_mod_cast hn
  refine Rat.not_lt.1 λhl=>?_
  have:=Rat.mul_lt_mul_of_pos_left hl n0;grind
 have l0:=(hl k hk).1;exact jM.mono (bU aRd (by grind))
theorem bAs{a b:Cp}{s d:Rat}(ha:Nm a s)(hb:Nm b s)(hd:Nm (a-b) d):∀m:Nat,Nm (a.pw (m+1)-b.pw (m+1)) (((m+1:Nat):Rat)*d*s^m)
 |0=>by rw[Cp.pw_one,Cp.pw_one,Rat.pow_zero,show((0+1:Nat):Rat)=1 from rfl,Rat.one_mul,Rat.mul_one];exact hd
 |m+1=>by
  have ih:=bAs ha hb hd m;have e:a.pw (m+1+1)-b.pw (m+1+1)=(a.pw (m+1)-b.pw (m+1))*a+b.pw (m+1)*(a-b):=by show a.pw (m+1)*a-b.pw (m+1)*b=_;rw[Cp.sub_mul,Cp.mul_sub];exact E9 (by simp only[Cp.add_re,S9];grind) (by simp only[Cp.add_im,T9];grind)
  rw[e];refine((ih.mul ha).add ((xV hb (m+1)).mul hd)).mono ?_;have c:((m+1+1:Nat):Rat)=((m+1:Nat):Rat)+1:=by push_cast;rfl
  rw[c,Rat.pow_succ];grind
def aWb(j:Nat)(s:Rat):Rat:=(match j with|0=>0|p+1=>((p+1:Nat):Rat)*(1127*eps)*s^p)+100*eps*s^j
theorem aOd{a b e:Cp}{s:Rat}(ha:Nm a s)(hb:Nm b s)(hd:Nm (a-b) (1127*eps))(he:Nm e (100*eps))(j:Nat):Nm (a.pw j*(O9+e)-b.pw j) (aWb j s):=by
 have e1:a.pw j*(O9+e)-b.pw j=(a.pw j-b.pw j)+a.pw j*e:=by rw[Cp.mul_add,Cp.mul_one];exact E9 (by simp only[Cp.add_re,S9];grind) (by simp only[Cp.add_im,T9];grind)
 rw[e1];have h2:=(xV ha j).mul he;unfold aWb;cases j with
 |zero=>refine(Nm.add (r:=0) ?_ h2).mono (by grind);show Nm (O9-O9) 0;rw[Cp.sub_self];exact jM
 |succ p=>exact((bAs ha hb hd p).add h2).mono (by grind)
theorem bK3{j:Nat}(hj:j<=3){s u:Rat}(hs0:0<=s)(hs:s<=3813/1000*u)(hu:42/100<=u):aWb j s<=125000*eps*u^j:=by
 have ep:=bI;have u0:0<=u:=by grind
 have s2:=aC hs hs hs0 (by grind);have s3:=aC s2 hs hs0 (by have:=bU u0 u0;grind);have u1:1<=100/42*u:=by grind
 have u2:u<=100/42*(u*u):=by have:=cG u1 u0;grind
 have u3:u*u<=100/42*(u*u*u):=by have:=cG u1 (bU u0 u0);grind
 have uu:=bU u0 u0
 match j,hj with
 |0,_=>show 0+100*eps*s^0<=125000*eps*u^0;rw[Rat.pow_zero,Rat.pow_zero];grind
 |1,_=>show((0+1:Nat):Rat)*(1127*eps)*s^0+100*eps*s^1<=125000*eps*u^1;rw[Rat.pow_zero,Rat.pow_succ,Rat.pow_zero,Rat.pow_succ,Rat.pow_zero,show((0+1:Nat):Rat)=1 from rfl];have:=dI (show 1127+100*s<=125000*u by grind) (bN ep);grind
 |2,_=>show((1+1:Nat):Rat)*(1127*eps)*s^1+100*eps*s^2<=125000*eps*u^2;simp only[Rat.pow_succ,Rat.pow_zero];rw[show((1+1:Nat):Rat)=2 from rfl];have:=dI (show 2254*s+100*(s*s)<=125000*(u*u) by grind) (bN ep);grind
 |3,_=>show((2+1:Nat):Rat)*(1127*eps)*s^2+100*eps*s^3<=125000*eps*u^3;simp only[Rat.pow_succ,Rat.pow_zero];rw[show((2+1:Nat):Rat)=3 from rfl];have:=dI (show 3381*(s*s)+100*(s*s*s)<=125000*(u*u*u) by grind) (bN ep);grind
theorem aXs{j:Nat}(hj:j<=3){s:Rat}(hs0:0<=s)(hs:s<=1601/1000):aWb j s<=143500*eps*(399/1000)^j:=by
 have ep:=bI;have s2:=aC hs hs hs0 (by decide +kernel);have s3:=aC s2 hs hs0 (by decide +kernel)
 match j,hj with
 |0,_=>show 0+100*eps*s^0<=143500*eps*(399/1000)^0;rw[Rat.pow_zero,Rat.pow_zero];grind
 |1,_=>show((0+1:Nat):Rat)*(1127*eps)*s^0+100*eps*s^1<=143500*eps*(399/1000)^1;simp only[Rat.pow_succ,Rat.pow_zero];rw[show((0+1:Nat):Rat)=1 from rfl];have:=dI (show 1127+100*s<=143500*(399/1000) by grind) (bN ep);grind
 |2,_=>show((1+1:Nat):Rat)*(1127*eps)*s^1+100*eps*s^2<=143500*eps*(399/1000)^2;simp only[Rat.pow_succ,Rat.pow_zero];rw[show((1+1:Nat):Rat)=2 from rfl];have:=dI (show 2254*s+100*(s*s)<=143500*(399/1000*(399/1000)) by grind) (bN ep);grind
 |3,_=>show((2+1:Nat):Rat)*(1127*eps)*s^2+100*eps*s^3<=143500*eps*(399/1000)^3;simp only[Rat.pow_succ,Rat.pow_zero];rw[show((2+1:Nat):Rat)=3 from rfl];have:=dI (show 3381*(s*s)+100*(s*s*s)<=143500*(399/1000*(399/1000)*(399/1000)) by grind) (bN ep);grind
theorem bR7:125000*eps<=998/1000*dE:=by rw[oP];unfold dE;decide +kernel
theorem bDk:143500*eps<=998/1000*dE:=by rw[oP];unfold dE;decide +kernel
section
variable{n:Nat}{z w:Nat->Cp}(hz:Pts lD uL n z)(hw:Pts lD uL n w)(hzw:∀k,k<n->z k*w k=O9)(hn:0<n)
include hz hw hzw hn
theorem bMp{a:Cp}{r:Rat}{k:Nat}(hr:r=a.re.abs+a.im.abs)(h3:k<=3)(hr3:3/5<=r):Ng (csm (λi=>cC (pC a (r+1/1000) k) (z i)) n) ((n:Rat)*(999/1000*(7/10*r)^k)):=by
 have n0:(0:Rat)<(n:Rat):=by exact_mod_cast hn
 have hnm:Nm a r:=by rw[hr];exact aSw a
 have hc:r+(lD-1)<=r+1/1000:=by rw[hr];exact bMo a
 have gg:Ng (-a) (7/10*r):=by
  refine⟨by grind,?_⟩;have e:(-a).nsq=a.re*a.re+a.im*a.im:=by unfold Cp.nsq;simp only[Cp.neg_re,Cp.neg_im];grind
  rw[e,hr];exact seven
 have G:=yR gg k;have G0:0<(7/10*r)^k:=xM (by grind) k;have hl:=aO0 hz hw hzw hn hnm hc k h3;have ratio:(1+(r+1/1000))^k<=56*(7/10*r)^k:=by have e1:(1+(r+1/1000))^k<=(382/100*(7/10*r))^k:=bAq (by grind) (by grind) k;rw[aDh]at e1;refine cR e1 (cG ?_ (bN G0));exact cR (eU (by decide +kernel) h3) (by decide +kernel)
 have big:Ng (csm (λi=>cC (pC a (r+1/1000) k) (z i)) n) ((n:Rat)*(999/1000*(7/10*r)^k)):=by
  have a1:Ng (C9 (n:Rat)*(-a).pw k) ((n:Rat)*(7/10*r)^k):=by refine Ng.mul ⟨bN n0,?_⟩ G;unfold Cp.nsq;simp only[Cp.of_re,Cp.of_im];grind
  have small:(1+(r+1/1000))^k*EE<=1/1000*(7/10*r)^k:=by have i1:=cG ratio aGv;have i2:=dI bJq (bN G0);grind
  have i3:=dI small (bN n0);have p1:=Rat.mul_pos n0 G0;have:=oG a1 hl (by grind);have e:C9 (n:Rat)*(-a).pw k+(csm (λi=>cC (pC a (r+1/1000) k) (z i)) n-C9 (n:Rat)*(-a).pw k)=csm (λi=>cC (pC a (r+1/1000) k) (z i)) n:=E9 (by simp only[Cp.add_re,S9];grind) (by simp only[Cp.add_im,T9];grind);rw[e]at this;exact this.mono (by grind) (by grind)
 exact big
theorem aUp{V E:Nat->Cp}{l:Nat->Rat}{mn R r:Rat}{C γ:Cp}{j:Nat}(R1:1<=R)(hj:j<=3)(hr:r=γ.re.abs+γ.im.abs)(hE:∀k,k<n->Nm (C9 R⁻¹*E k-(z k-γ)) (1127*eps))(hV:∀k,k<n->Rl (V k) (C*(E k).pw j) (100*eps))(hl:∀k,k<n->Nm (V k) (l k))(hs:rsm l n=(n:Rat)*mn):
  aNx (.out (pC γ (r+1/1000) j))/\Elw n z w (.out (pC γ (r+1/1000) j)) (C*(C9 R).pw j) V l mn:=by
 have et:=bR;have n0:(0:Rat)<(n:Rat):=by exact_mod_cast hn
 have r0:0<=r:=by rw[hr];have:=aH γ.re;have:=aH γ.im;grind
 have hnm:Nm γ r:=by rw[hr];exact aSw γ
 have Rn:R≠0:=by grind
 have hψ:∀k,k<n->∃ψ,V k=C*(C9 R).pw j*ψ/\Nm (ψ-(z k-γ).pw j) (aWb j (r+1001/1000)):=λk hk=>by
  obtain⟨e,e1,e2⟩:=hV k hk;refine⟨(C9 R⁻¹*E k).pw j*(O9+e),?_,?_⟩
  ·have eE:E k=C9 R*(C9 R⁻¹*E k):=by rw[<-M9,<-Cp.of_mul_of,Rat.mul_inv_cancel _ Rn];exact(Cp.one_mul _).symm
   rw[e2]
   conv=>lhs;rw[eE]
   rw[Cp.pw_mul];simp only[M9]
  ·have zs:=(hz.at_ k hk).mono (show lD<=1000001/1000000 by have:=uJ;grind);have hb:Nm (z k-γ) (r+1001/1000):=(zs.sub hnm).mono (by grind);have ha:Nm (C9 R⁻¹*E k) (r+1001/1000):=((hE k hk).near (zs.sub hnm)).mono (by grind);exact aOd ha hb (hE k hk) e1 j
 obtain⟨ψ,hψ⟩:∃ψ:Nat->Cp,∀k,k<n->V k=C*(C9 R).pw j*ψ k/\Nm (ψ k-(z k-γ).pw j) (aWb j (r+1001/1000)):=by
  classical
  refine⟨λk=>if h:k<n then Classical.choose (hψ k h) else Z9,λk hk=>?_⟩;simp only[hk,dif_pos];exact Classical.choose_spec (hψ k hk)
 generalize C*(C9 R).pw j=K at *
 have done:∀{G:Rat},0<G->Nm K (mn/(998/1000*G))->aWb j (r+1001/1000)<=998/1000*dE*G->∀k,k<n->Nm (V k-K*(Sd.out (pC γ (r+1/1000) j)).at_ (z k) (w k)) (dE*(l k+mn)):=λ{G} G0 hK hη k hk=>by
  obtain⟨h1,h2⟩:=hψ k hk;show Nm (V k-K*cC (pC γ (r+1/1000) j) (z k)) _;rw[aAo,h1,<-Cp.mul_sub];refine(hK.mul (h2.mono hη)).mono ?_;have e:mn/(998/1000*G)*(998/1000*dE*G)=mn*dE:=by
   have:=uU (a:=mn) (c:=998/1000*G) (by grind);generalize mn/(998/1000*G)=D at *
   grind
  rw[e];have:=bU aRd (hl k hk).1;grind
 refine⟨.lin γ r j hr hj,hl,hs,?_⟩;rcases(Rat.le_total:3/5<=r\/r<=3/5) with hr3|hr3
 ·have far:=bMp hz hw hzw hn hr hj hr3;have G0:0<(7/10*r)^j:=xM (by grind) j;have eta:=bK3 hj (s:=r+1001/1000) (u:=7/10*r) (by grind) (by grind) (by grind);have eta2:aWb j (r+1001/1000)<=998/1000*dE*(7/10*r)^j:=cR eta (cG bR7 (bN G0));refine done G0 ?_ eta2;have hd:=aHh (n:=n) (f:=λk=>ψ k-cC (pC γ (r+1/1000) j) (z k)) (r:=aWb j (r+1001/1000)) λk hk=>by show Nm (ψ k-cC (pC γ (r+1/1000) j) (z k)) _;rw[aAo];exact(hψ k hk).2
  rw[tJ]at hd;have small:aWb j (r+1001/1000)<=1/1000*(7/10*r)^j:=by refine cR eta2 (cG ?_ (bN G0));unfold dE;decide +kernel
  have i1:=dI small (bN n0);have p1:=Rat.mul_pos n0 G0;have big:=oG far hd (by grind);have e:csm (λk=>cC (pC γ (r+1/1000) j) (z k)) n+(csm (λk=>ψ k) n-csm (λk=>cC (pC γ (r+1/1000) j) (z k)) n)=csm (λk=>ψ k) n:=E9 (by simp only[Cp.add_re,S9];grind) (by simp only[Cp.add_im,T9];grind);rw[e]at big;have big2:Ng (csm (λk=>ψ k) n) ((n:Rat)*(998/1000*(7/10*r)^j)):=big.mono (by grind) (by grind);refine aE3 big2 (by grind) ?_;have ev:csm (λk=>ψ k) n*K=csm V n:=by rw[Cp.mul_comm,<-lR];exact cA λk hk=>((hψ k hk).1).symm
  rw[ev];refine(jE hl).mono ?_;rw[hs];have e2:(n:Rat)*(998/1000*(7/10*r)^j)*(mn/(998/1000*(7/10*r)^j))=(n:Rat)*mn:=by
   have:=uU (a:=mn) (c:=998/1000*(7/10*r)^j) (by grind);generalize mn/(998/1000*(7/10*r)^j)=D at *
   rw[<-this];grind
  rw[e2];exact R9
 ·obtain⟨i,hi,hlow⟩:=bA4 (f:=l) (c:=mn) hn (by rw[hs];exact R9);have G0:(0:Rat)<(399/1000)^j:=xM (by decide +kernel) j;have eta:=aXs hj (s:=r+1001/1000) (by grind) (by grind);have eta2:aWb j (r+1001/1000)<=998/1000*dE*(399/1000)^j:=cR eta (cG bDk (bN G0));refine done G0 ?_ eta2;have far:Ng (z i-γ) (399/1000):=by have a1:=bPm hz hw hzw hn hi;have:=oG a1 hnm.neg (by grind);rw[<-Cp.sub_eq]at this;exact this.mono (by decide +kernel) (by grind)
  have q:=yR far j;have small:aWb j (r+1001/1000)<=2/1000*(399/1000)^j:=by refine cR eta2 (cG ?_ (bN G0));unfold dE;decide +kernel
  have big:=oG q (hψ i hi).2 (by grind);have e:(z i-γ).pw j+(ψ i-(z i-γ).pw j)=ψ i:=E9 (by simp only[Cp.add_re,S9];grind) (by simp only[Cp.add_im,T9];grind);rw[e]at big;have big2:Ng (ψ i) (998/1000*(399/1000)^j):=big.mono (by grind) (by grind);refine aE3 big2 (by grind) ?_;have e2:998/1000*(399/1000)^j*(mn/(998/1000*(399/1000)^j))=mn:=by rw[Rat.mul_comm];exact uU (by grind)
  rw[e2,Cp.mul_comm,<-(hψ i hi).1];exact(hl i hi).mono hlow
end
def Fit(r:Rat):Prop:=r=0\/(2:Rat)^(-400:Int)<=r
theorem aE6{A:Cp}(h:Nm A 0):A=Z9:=aF6 (by have:=h.2;have:=A.nsq_nonneg;grind)
theorem mY{a b c d:Nat}{A B:Cp}(hA:IsZ a b A)(hB:IsZ c d B){r s:Rat}(rA:Nm A r)(sB:Nm B s)(big:16*(r*s)+1<=iG)(fr:Fit r)(fs:Fit s):
  ∃p q P,IsZ p q P/\Nm (P-A*B) (eps*(r*s))/\∀(R:Type)(k:KNN R),dV R a b c d k=k p q:=by
 have h0:A=Z9\/B=Z9\/(4*tn<=1/1000*eps*(r*s)):=by
  rcases fr with h|h;· left;rw[h]at rA;exact aE6 rA
  rcases fs with g|g;· right;left;rw[g]at sB;exact aE6 sB
  right;right;have q:=aC h g (bN (bG _)) rA.1;rw[<-bO]at q;have e:=aHw (q:=800) (by decide);have:=aCr;have:=dI (show(2:Rat)^(-(((800:Nat):Int)))<=r*s from q) (show 0<=1/1000*eps by have:=bI;grind);grind
 have ep:=bI;have el:=aB7;have ts:=pT;obtain⟨A1,A2⟩:=hA;obtain⟨B1,B2⟩:=hB;obtain⟨a1,a2⟩:=aFq rA;obtain⟨b1,b2⟩:=aFq sB;have bd:∀{u v:Rat},u.abs<=r->v.abs<=s->u.abs*v.abs<=r*s:=λ{u v} h1 h2=>aC h1 h2 (aH v) rA.1
 have rs0:=bU rA.1 sB.1;obtain⟨x1,X1,f1,i1,e1,z1⟩:=jT A1 B1 (cR (bd a1 b1) (by grind));obtain⟨x2,X2,f2,i2,e2,z2⟩:=jT A2 B2 (cR (bd a2 b2) (by grind));obtain⟨x3,X3,f3,i3,e3,z3⟩:=jT A1 B2 (cR (bd a1 b2) (by grind));obtain⟨x4,X4,f4,i4,e4,z4⟩:=jT A2 B1 (cR (bd a2 b1) (by grind));have sz:∀{u X:Rat}{v w:Rat},(X-u).abs<=eps/4*(v.abs*w.abs)+tn->u=v*w->v.abs<=r->w.abs<=s->X.abs<=2*(r*s)+1/4:=λ{u X v w} h1 h2 h3 h4=>by have q:=bd h3 h4;have:=aL (X-u) u;rw[show X-u+u=X by grind,h2,bD]at this;have c:=cG (show eps/4<=1/2 by grind) (bU (aH v) (aH w));rw[h2]at h1;grind
 have s1:=sz e1 rfl a1 b1;have s2:=sz e2 rfl a2 b2;have s3:=sz e3 rfl a1 b2;have s4:=sz e4 rfl a2 b1;obtain⟨y1,Y1,g1,j1,d1⟩:=qD i1 i2 (kY (cR (show(X1-X2).abs<=X1.abs+X2.abs by have:=aL X1 (-X2);rw[abs_neg]at this;grind) (by grind)));obtain⟨y2,Y2,g2,j2,d2⟩:=mJ i3 i4 (kY (cR (aL X3 X4) (by grind)));have run:∀(R:Type)(k:KNN R),dV R a b c d k=k y1 y2:=λR k=>by unfold dV;rw[aK f1,aK f2,aK g1,aK f3,aK f4,aK g2]
 refine⟨y1,y2,⟨Y1,Y2⟩,⟨j1,j2⟩,?_,run⟩;have p1:(Y1-(A.re*B.re+-(A.im*B.im))).abs<=501/1000*eps*(A.re.abs*B.re.abs+A.im.abs*B.im.abs)+4*tn:=by
  refine aDg (X1:=X1) (X2:=-X2) e1 ?_ (by rw[bD];exact R9) (by rw[abs_neg,bD];exact R9) ?_;· rw[show -X2 - -(A.im*B.im)=-(X2-A.im*B.im) by grind,abs_neg];exact e2
  ·have:=d1.fine;have t:=aL X1 (-X2);rw[abs_neg,show X1+-X2=X1-X2 by grind]at t;rw[abs_neg,show Y1-(X1+-X2)=Y1-(X1-X2) by grind];have:=cG t (show 0<=eps/4 by grind);grind
 have p2:(Y2-(A.re*B.im+A.im*B.re)).abs<=501/1000*eps*(A.re.abs*B.im.abs+A.im.abs*B.re.abs)+4*tn:=by refine aDg (X1:=X3) (X2:=X4) e3 e4 (by rw[bD];exact R9) (by rw[bD];exact R9) ?_;have:=d2.fine;have t:=aL X3 X4;have:=cG t (show 0<=eps/4 by grind);grind
 have zero_all:(A.re=0/\A.im=0)\/(B.re=0/\B.im=0)->Nm (⟨Y1,Y2⟩-A*B) (eps*(r*s)):=λh=>by
  have q1:X1=0:=z1 (h.imp (λh=>h.1) λh=>h.1);have q2:X2=0:=z2 (h.imp (λh=>h.2) λh=>h.2);have q3:X3=0:=z3 (h.imp (λh=>h.1) λh=>h.2);have q4:X4=0:=z4 (h.imp (λh=>h.2) λh=>h.1);subst q1 q2 q3 q4;have w1:=aAp d1 (by grind);have w2:=aAp d2 (by grind);have:A*B=Z9:=by
   rcases h with h|h
   ·refine E9 ?_ ?_
    ·rw[Cp.mul_re,h.1,h.2,Cp.zero_re];grind
    ·rw[Cp.mul_im,h.1,h.2,Cp.zero_im];grind
   ·refine E9 ?_ ?_
    ·rw[Cp.mul_re,h.1,h.2,Cp.zero_re];grind
    ·rw[Cp.mul_im,h.1,h.2,Cp.zero_im];grind
  rw[this,show(⟨Y1,Y2⟩:Cp)=Z9 from E9 w1 w2,Cp.sub_self];exact jM.mono (bU (bN ep) rs0)
 rcases h0 with h0|h0|htn;· exact zero_all (.inl (by rw[h0];exact⟨rfl,rfl⟩))
 ·exact zero_all (.inr (by rw[h0];exact⟨rfl,rfl⟩))
 ·have c1:=aQ5 (a:=A.re) (b:=A.im) (c:=B.re) (d:=B.im);have c2:=aQ5 (a:=A.re) (b:=A.im) (c:=B.im) (d:=B.re);have hN:(A.re*A.re+A.im*A.im)*(B.re*B.re+B.im*B.im)<=(r*s)*(r*s):=by have:=aC rA.2 sB.2 B.nsq_nonneg (bU rA.1 rA.1);have e:A.nsq*B.nsq=(A.re*A.re+A.im*A.im)*(B.re*B.re+B.im*B.im):=rfl;rw[e]at this;grind
  have hN2:(A.re*A.re+A.im*A.im)*(B.im*B.im+B.re*B.re)<=(r*s)*(r*s):=by rw[show B.im*B.im+B.re*B.re=B.re*B.re+B.im*B.im by grind];exact hN
  have nn:∀u v:Rat,0<=u.abs*v.abs:=λu v=>bU (aH u) (aH v)
  have q1:=aFu p1 (by have:=nn A.re B.re;have:=nn A.im B.im;grind) rs0 htn (cR c1 hN) R9;have q2:=aFu p2 (by have:=nn A.re B.im;have:=nn A.im B.re;grind) rs0 htn (cR c2 hN2) R9;refine⟨bU (bN ep) rs0,?_⟩;have e:((⟨Y1,Y2⟩:Cp)-A*B).nsq=(Y1-(A.re*B.re+-(A.im*B.im)))*(Y1-(A.re*B.re+-(A.im*B.im)))+(Y2-(A.re*B.im+A.im*B.re))*(Y2-(A.re*B.im+A.im*B.re)):=by unfold Cp.nsq;simp only[S9,T9,Cp.mul_re,Cp.mul_im];rw[show Y1-(A.re*B.re-A.im*B.im)=Y1-(A.re*B.re+-(A.im*B.im)) by grind]
  rw[e];have ee:=bU (bU (bN ep) (bN ep)) (bU rs0 rs0);generalize (Y1-(A.re*B.re+-(A.im*B.im)))*(Y1-(A.re*B.re+-(A.im*B.im)))=U at *
  generalize (Y2-(A.re*B.im+A.im*B.re))*(Y2-(A.re*B.im+A.im*B.re))=V at *
  grind
def aWh(a b c:Nat×Nat):Prop:=∀(R:Type)(k:KNN R),jJ R a.1 a.2 b.1 b.2 k=k c.1 c.2
theorem aK4{a b:Nat×Nat}{X Y:Cp}{B:Rat}(hX:IsZ a.1 a.2 X)(hY:IsZ b.1 b.2 Y)(h1:Nm (X+Y) B)(fB:Fit B)(hB:B<=iG):∃c Z,aWh a b c/\IsZ c.1 c.2 Z/\Nm (Z-(X+Y)) (eps/2*B):=by
 have ep:=bI;have u1:=h1.re;have u2:=h1.im;rw[Cp.add_re]at u1;rw[Cp.add_im]at u2;obtain⟨z1,Z1,e1,i1,q1⟩:=mJ hX.1 hY.1 (kY (cR u1 hB));obtain⟨z2,Z2,e2,i2,q2⟩:=mJ hX.2 hY.2 (kY (cR u2 hB));refine⟨(z1,z2),⟨Z1,Z2⟩,λR k=>by unfold jJ;rw[aK e1,aK e2],⟨i1,i2⟩,?_⟩;rcases fB with h|h
 ·subst h;have a1:=aH (X.re+Y.re);have x1:X.re+Y.re=0:=by have:=aA.1 u1;grind
  have x2:X.im+Y.im=0:=by have:=aA.1 u2;grind
  have w1:=qC q1 x1;have w2:=qC q2 x2;subst w1 w2;have e:(⟨0,0⟩:Cp)-(X+Y)=Z9:=E9 (by show 0-(X.re+Y.re)=0;rw[x1];grind) (by show 0-(X.im+Y.im)=0;rw[x2];grind);rw[e];exact jM.mono (by grind)
 ·have hb:(2:Rat)^(-1000:Int)<=B:=cR (cY (by decide)) h;have r1:=vV q1 u1 hb;have r2:=vV q2 u2 hb;have g:=vG (a:=⟨Z1,Z2⟩-(X+Y)) (r:=eps/4*B) r1 r2;refine g.mono ?_;have e0:=bU (bN ep) h1.1;clear g r1 r2 hb h q1 q2 u1 u2;grind
theorem aBw{b:Nat->Rat}{n:Nat}(h0:∀k,k<n->0<=b k){j:Nat}(hj:j<=n):rsm b j<=rsm b n:=by
 induction n with
 |zero=>
      have:j=0:=by omega
      subst this;exact R9
 |succ n ih=>
  rcases Nat.lt_or_ge j (n+1) with h|h;· have a:=ih (λk hk=>h0 k (by omega)) (by omega);have b1:=h0 n (by omega);show rsm b j<=rsm b n+b n;grind
  ·have:j=n+1:=by omega
   subst this;exact R9
theorem aAv{q:Nat->Nat×Nat}{A:Nat->Cp}{b:Nat->Rat}{n:Nat}{B:Rat}(hn:n<=1000)(hA:∀k,k<n->IsZ (q k).1 (q k).2 (A k))(hb:∀k,k<n->Nm (A k) (b k))(hs:rsm b n<=B)(fB:Fit B)(hB:2*B<=iG):
  ∃g:Nat->Nat×Nat,g 0=(0,0)/\(0<n->g 1=q 0)/\(∀k,0<k->k<n->aWh (g k) (q k) (g (k+1)))/\∀j,j<=n->∃S,IsZ (g j).1 (g j).2 S/\Nm (S-csm A j) ((j:Rat)*(eps*B)):=by
 have ep:=bI;have et:=bR;have b0:∀k,k<n->0<=b k:=λk hk=>(hb k hk).1
 have B0:0<=B:=cR (eZ b0) hs;have fB2:Fit (2*B):=by
  rcases fB with h|h;· left;rw[h];grind
  ·right;grind
 have eB:=bU (bN ep) B0;have key:∀j,j<=n->∃g:Nat->Nat×Nat,g 0=(0,0)/\(0<n->0<j->g 1=q 0)/\(∀k,0<k->k<j->aWh (g k) (q k) (g (k+1)))/\∀i,i<=j->∃S,IsZ (g i).1 (g i).2 S/\Nm (S-csm A i) ((i:Rat)*(eps*B)):=by
  intro j;induction j with
  |zero=>
   intro _;refine⟨λ_=>(0,0),rfl,λ_ h=>absurd h (by omega),λk h1 h2=>absurd h2 (by omega),λi hi=>?_⟩;have:i=0:=by omega
   subst this;refine⟨Z9,⟨hJ,hJ⟩,?_⟩;show Nm (Z9-Z9) _;rw[Cp.sub_self];exact jM.mono (by rw[show((0:Nat):Rat)=0 from rfl];grind)
  |succ j ih=>
   intro hj;obtain⟨g,g0,g1,g2,g3⟩:=ih (by omega);rcases Nat.eq_zero_or_pos j with h0|h0
   ·subst h0;refine⟨λi=>if i=0 then(0,0) else q 0,rfl,λ_ _=>rfl,λk h1 h2=>absurd h2 (by omega),λi hi=>?_⟩;rcases Nat.eq_zero_or_pos i with hi0|hi0
    ·subst hi0;refine⟨Z9,⟨hJ,hJ⟩,?_⟩;show Nm (Z9-Z9) _;rw[Cp.sub_self];exact jM.mono (by rw[show((0:Nat):Rat)=0 from rfl];grind)
    ·have:i=1:=by omega
     subst this;refine⟨A 0,hA 0 (by omega),?_⟩;show Nm (A 0-(Z9+A 0)) _;rw[Cp.zero_add,Cp.sub_self];exact jM.mono (by rw[show((1:Nat):Rat)=1 from rfl];grind)
   ·obtain⟨S,iS,dS⟩:=g3 j (L9 j);have hsum:Nm (csm A (j+1)) B:=(jE (n:=j+1) λk hk=>hb k (by omega)).mono (cR (aBw b0 hj) hs);have jn:(j:Rat)<=1000:=by exact_mod_cast (show j<=1000 by omega)
    have jB:(j:Rat)*(eps*B)<=B:=by have h1:=cG jn eB;have h2:=cG et B0;grind
    have e:S+A j-csm A (j+1)=S-csm A j:=by show S+A j-(csm A j+A j)=_;exact E9 (by simp only[Cp.add_re,S9];grind) (by simp only[Cp.add_im,T9];grind)
    have d2:Nm (S+A j-csm A (j+1)) ((j:Rat)*(eps*B)):=by rw[e];exact dS
    have big:Nm (S+A j) (2*B):=(d2.near hsum).mono (by grind);obtain⟨c,Z,ac,iZ,dZ⟩:=aK4 iS (hA j (by omega)) big fB2 hB;refine⟨λi=>if i=j+1 then c else g i,by simp[g0],λa _=>?_,λk h1 h2=>?_,λi hi=>?_⟩
    ·have:¬(1=j+1):=by omega
     simp only[this,if_false];exact g1 a h0
    ·rcases Nat.lt_or_ge k j with hk|hk
     ·have e1:¬(k=j+1):=by omega
      have e2:¬(k+1=j+1):=by omega
      simp only[e1,e2,if_false];exact g2 k h1 hk
     ·have:k=j:=by omega
      subst this;have e1:¬(k=k+1):=by omega
      simp only[e1,if_false,if_true];exact ac
    ·rcases Nat.lt_or_ge i (j+1) with hi2|hi2
     ·have e1:¬(i=j+1):=by omega
      simp only[e1,if_false];exact g3 i (by omega)
     ·have:i=j+1:=by omega
      subst this;simp only[if_true];refine⟨Z,iZ,(dZ.tri d2).mono ?_⟩;have c1:((j+1:Nat):Rat)=(j:Rat)+1:=by push_cast;rfl
      rw[c1];grind
 obtain⟨g,g0,g1,g2,g3⟩:=key n (L9 n);exact⟨g,g0,λh=>g1 h h,g2,g3⟩
theorem aWr{a b:Nat}{x y B:Rat}(ha:Is a x)(hb:Is b y)(h1:(x+y).abs<=B)(fB:Fit B)(hB:B<=iG):∃c z,fbF .add a b=some c/\Is c z/\(z-(x+y)).abs<=eps/4*B:=by
 obtain⟨c,z,e1,i1,q1⟩:=mJ ha hb (kY (cR h1 hB));refine⟨c,z,e1,i1,?_⟩;rcases fB with h|h
 ·subst h;have x1:x+y=0:=by have:=aA.1 h1;grind
  have w1:=qC q1 x1;subst w1;rw[x1,show(0:Rat)-0=0 by grind,fO];grind
 ·exact vV q1 h1 (cR (cY (by decide)) h)
theorem wI{a b:Nat}{x y B:Rat}(ha:Is a x)(hb:Is b y)(h1:(x*y).abs<=B)(fB:Fit B)(hB:B<=iG):∃c z,fbF .mul a b=some c/\Is c z/\(z-x*y).abs<=eps/4*B:=by
 obtain⟨c,z,e1,i1,q1⟩:=kH ha hb (kY (cR h1 hB));refine⟨c,z,e1,i1,?_⟩;rcases fB with h|h
 ·subst h;have x1:x*y=0:=by have:=aA.1 h1;grind
  have w1:=qC q1 x1;subst w1;rw[x1,show(0:Rat)-0=0 by grind,fO];grind
 ·exact vV q1 h1 (cR (cY (by decide)) h)
theorem aNe{q:Nat->Nat}{A:Nat->Rat}{n:Nat}{B:Rat}(hn:n<=1000)(hA:∀k,k<n->Is (q k) (A k))(h0:∀k,k<n->0<=A k)(hs:rsm A n<=B)(fB:Fit B)(hB:2*B<=iG):
  ∃g:Nat->Nat,g 0=0/\(∀k,k<n->fbF .add (g k) (q k)=some (g (k+1)))/\∀j,j<=n->∃S,Is (g j) S/\(S-rsm A j).abs<=(j:Rat)*(eps*B):=by
 have ep:=bI;have et:=bR;have B0:0<=B:=cR (eZ h0) hs;have fB2:Fit (2*B):=by
  rcases fB with h|h;· left;rw[h];grind
  ·right;grind
 have eB:=bU (bN ep) B0;have key:∀j,j<=n->∃g:Nat->Nat,g 0=0/\(∀k,k<j->fbF .add (g k) (q k)=some (g (k+1)))/\∀i,i<=j->∃S,Is (g i) S/\(S-rsm A i).abs<=(i:Rat)*(eps*B):=by
  intro j;induction j with
  |zero=>
   intro _;refine⟨λ_=>0,rfl,λk h2=>absurd h2 (by omega),λi hi=>?_⟩;have:i=0:=by omega
   subst this;refine⟨0,hJ,?_⟩;show((0:Rat)-0).abs<=_;rw[show(0:Rat)-0=0 by grind,fO,show((0:Nat):Rat)=0 from rfl];grind
  |succ j ih=>
   intro hj;obtain⟨g,g0,g2,g3⟩:=ih (by omega);obtain⟨S,iS,dS⟩:=g3 j (L9 j);have jn:(j:Rat)<=1000:=by exact_mod_cast (show j<=1000 by omega)
   have jB:(j:Rat)*(eps*B)<=B:=by have h1:=cG jn eB;have h2:=cG et B0;grind
   have hsum:rsm A (j+1)<=B:=cR (aBw h0 hj) hs;have hsum0:0<=rsm A (j+1):=eZ λk hk=>h0 k (by omega)
   have e:S+A j-rsm A (j+1)=S-rsm A j:=by show S+A j-(rsm A j+A j)=_;grind
   have d2:(S+A j-rsm A (j+1)).abs<=(j:Rat)*(eps*B):=by rw[e];exact dS
   have big:(S+A j).abs<=2*B:=by have:=aA.1 d2;exact aA.2 ⟨by grind,by grind⟩
   obtain⟨c,Z,ac,iZ,dZ⟩:=aWr iS (hA j (by omega)) big fB2 hB;refine⟨λi=>if i=j+1 then c else g i,by simp[g0],λk h2=>?_,λi hi=>?_⟩
   ·rcases Nat.lt_or_ge k j with hk|hk
    ·have e1:¬(k=j+1):=by omega
     have e2:¬(k+1=j+1):=by omega
     simp only[e1,e2,if_false];exact g2 k hk
    ·have:k=j:=by omega
     subst this;have e1:¬(k=k+1):=by omega
     simp only[e1,if_false,if_true];exact ac
   ·rcases Nat.lt_or_ge i (j+1) with hi2|hi2
    ·have e1:¬(i=j+1):=by omega
     simp only[e1,if_false];exact g3 i (by omega)
    ·have:i=j+1:=by omega
     subst this;simp only[if_true];refine⟨Z,iZ,?_⟩;have c1:((j+1:Nat):Rat)=(j:Rat)+1:=by push_cast;rfl
     rw[c1];have t:=aL (Z-(S+A j)) (S+A j-rsm A (j+1));rw[show Z-(S+A j)+(S+A j-rsm A (j+1))=Z-rsm A (j+1) by grind]at t;grind
 exact key n (L9 n)
end Go.Vx
namespace Go.Vm
open Ieee
theorem bTp{u v e t:Rat}(h:u<=v+e)(c:e<=v*(1/1000)+t)(v0:0<=v)(t0:0<=t):u*(998/1000)<=v+t:=by grind
theorem bIk{U V t:Rat}(t20:t<=1/1048576)(t0:0<=t)(h1:U.abs*(998/1000)<=V.abs+t)(h2:V.abs<=1):U*U*(996/1000)<=V*V+3*t:=by
 have e1:U.abs*U.abs=U*U:=by rw[<-bD,fZ (aT _)]
 have e2:V.abs*V.abs=V*V:=by rw[<-bD,fZ (aT _)]
 have nU:=aH U;have h3:=aC h1 h1 (bU nU (by grind)) (show 0<=V.abs+t by grind);have h4:=cG h2 t0;have h5:=cG t20 t0;have h6:=aT U;grind
theorem bTo{X X0 Y Y0 P Q S T t e:Rat}(v1:X.abs*(998/1000)<=X0.abs+t)(v2:Y.abs*(998/1000)<=Y0.abs+t)(b1:X0.abs<=1)(b2:Y0.abs<=1)(t20:t<=1/1048576)(t0:0<=t)(hl:1/2<=X0.abs\/1/2<=Y0.abs)(f3:P-X*X<=X*X*(1/1000)+t)(f4:Q-Y*Y<=Y*Y*(1/1000)+t)(f5:S-(P+Q)<=(P+Q)*(1/1000)+t)(f6:T*T-S<=S*e)(m51:S*e<=S*(4/1000))(S0:0<=S):T*T<=102/100*(X0*X0+Y0*Y0):=by
 have v3:=bIk t20 t0 v1 b1;have v4:=bIk t20 t0 v2 b2;have x0:=aT X0;have y0:=aT Y0;have v5:1/4<=X0*X0+Y0*Y0:=by
  rcases hl with h|h
  ·have e1:X0.abs*X0.abs=X0*X0:=by rw[<-bD,fZ (aT _)]
   have:=aC h h (by decide +kernel) (aH X0);grind
  ·have e1:Y0.abs*Y0.abs=Y0*Y0:=by rw[<-bD,fZ (aT _)]
   have:=aC h h (by decide +kernel) (aH Y0);grind
 clear v1 v2 b1 b2 hl;generalize X*X=A at *
 generalize Y*Y=B at *
 generalize X0*X0=C at *
 generalize Y0*Y0=D at *
 grind
theorem aCe{a b:Nat}{x y d:Rat}(ha:Is a x)(hb:Is b y)(hx:x.abs<=d)(hy:y.abs<=d)(d1:(2:Rat)^(-900:Int)<=d)(d2:d<=(2:Rat)^(400:Int))(hlo:(x=0/\y=0)\/(2:Rat)^(-800:Int)<=x.abs\/(2:Rat)^(-800:Int)<=y.abs):
  ∃r L,Is r L/\0<=L/\L<=2*d/\x*x+y*y<=103/100*(L*L)/\L*L<=103/100*(x*x+y*y)/\∀(R:Type)(k:KNO R),cQ R a b k=k r:=by
 have hd0:0<d:=by have:=bG (-900);grind
 obtain⟨g,G,hg,gx,gy,hG,hgk⟩:=aCb ha hb;have hpre:∀(R:Type)(k:KNO R),cQ R a b k=aW (eqF g 0) λt=>match t with
   |true=>k 0
   |false=>yU R a b λx y e=>wR R x y λs=>aGs R s λr=>wP R r e k:=λR k=>by
  unfold cQ aJf;rw[oU ha,aJ];simp only;rw[oU hb,aJ];simp only;rw[lX ha,aJ];simp only;rw[lX hb,aJ];simp only;rw[hgk];rfl
 by_cases hG0:G=0
 ·refine⟨0,0,by simpa using hJ,R9,by grind,?_,by have:=aT x;have:=aT y;grind,λR k=>?_⟩
  ·have e1:x.abs*x.abs=x*x:=by rw[<-bD,fZ (aT _)]
   have e2:y.abs*y.abs=y*y:=by rw[<-bD,fZ (aT _)]
   have n1:=aH x;have n2:=aH y;have z1:x.abs=0:=by grind
   have z2:y.abs=0:=by grind
   rw[z1]at e1;rw[z2]at e2;grind
  rw[hpre,aJ,qT hg hJ];simp[hG0]
 have hGd:G<=d:=by rcases hG with h|h<;>grind
 have hGp:0<G:=by have:=aH x;grind
 have hGa:G.abs=G:=fZ (bN hGp);obtain⟨w,n,n1,n2,n3,n4,hfr⟩:=aL5 hg hG0;rw[hGa]at n1 n2;have n5:n<=401:=by
  refine Int.not_lt.1 λh=>?_
  have h1:=cY (show(401:Int)<=n-1 by omega);have h2:=fA 401;rw[show(401-1:Int)=400 by decide]at h2;have:=bG 400;grind
 have pn:=bG (-n);have hcan:(2:Rat)^n*(2:Rat)^(-n)=1:=jG n;have hhalf:(2:Rat)^(n-1)*(2:Rat)^(-n)=1/2:=by
  have:=fA n;have h3:(2:Rat)^n*(2:Rat)^(-n)=2*((2:Rat)^(n-1)*(2:Rat)^(-n)):=by rw[this];grind
  grind
 have hD:1/2<=d*(2:Rat)^(-n):=by have:=cG (cR n1 hGd) (bN pn);rwa[hhalf]at this
 have up:∀{u:Rat},u.abs<=G->u.abs<=d->(u*(2:Rat)^(-n)).abs<1/\(u*(2:Rat)^(-n)).abs<=d*(2:Rat)^(-n):=λ{u} h1 h2=>by rw[bD,sK];have g1:=Rat.mul_lt_mul_of_pos_right (show u.abs<(2:Rat)^n by grind) pn;have g2:=cG h2 (bN pn);rw[hcan]at g1;exact⟨g1,g2⟩
 obtain⟨ux1,ux2⟩:=up gx hx;obtain⟨uy1,uy2⟩:=up gy hy;have hlow':1/2<=(x*(2:Rat)^(-n)).abs\/1/2<=(y*(2:Rat)^(-n)).abs:=by
  have:=cG n1 (bN pn);rw[hhalf]at this;rcases hG with h|h;· left;rw[bD,sK,<-h];exact this
  ·right;rw[bD,sK,<-h];exact this
 obtain⟨r1,X,i1,q1,s1⟩:=uK (n:=-n) ha (by omega) (by omega) (kA (by grind));obtain⟨r2,Y,i2,q2,s2⟩:=uK (n:=-n) hb (by omega) (by omega) (kA (by grind));have c1:=q1.coarse;have c2:=q2.coarse;have ht:(2:Rat)^(-1075:Int)<=1/1000:=aDf (by decide);have ht0:=bG (-1075);generalize hDD:d*(2:Rat)^(-n)=D at *
 generalize hXX:x*(2:Rat)^(-n)=X0 at *
 generalize hYY:y*(2:Rat)^(-n)=Y0 at *
 generalize htt:(2:Rat)^(-1075:Int)=t at *
 have aX:X.abs<=X0.abs+(X-X0).abs:=by have:=aL (X-X0) X0;rw[show X-X0+X0=X by grind]at this;grind
 have aY:Y.abs<=Y0.abs+(Y-Y0).abs:=by have:=aL (Y-Y0) Y0;rw[show Y-Y0+Y0=Y by grind]at this;grind
 have aX':X0.abs<=X.abs+(X-X0).abs:=by have:=aL X (X0-X);rw[show X+(X0-X)=X0 by grind,lQ X0 X]at this;exact this
 have aY':Y0.abs<=Y.abs+(Y-Y0).abs:=by have:=aL Y (Y0-Y);rw[show Y+(Y0-Y)=Y0 by grind,lQ Y0 Y]at this;exact this
 have bX:X.abs<=51/50*D:=by grind
 have bY:Y.abs<=51/50*D:=by grind
 have bX1:X.abs<=51/50:=by grind
 have bY1:Y.abs<=51/50:=by grind
 have sX:=bBp bX;have sY:=bBp bY;have sX1:=bBp bX1;have sY1:=bBp bY1;have zX:=aT X;have zY:=aT Y;have aXX:(X*X).abs=X*X:=fZ zX;have aYY:(Y*Y).abs=Y*Y:=fZ zY;obtain⟨r3,Pp,e3,i3,q3⟩:=kH i1 i1 (kA (by rw[aXX];grind));obtain⟨r4,Qq,e4,i4,q4⟩:=kH i2 i2 (kA (by rw[aYY];grind));have c3:=q3.coarse;have c4:=q4.coarse;rw[aXX]at c3;rw[aYY]at c4;rw[htt]at c3 c4;have f3:=aA.1 c3;have f4:=aA.1 c4;have hDsq:1/4<=D*D:=by have:=dI hD (show(0:Rat)<=D by grind);grind
 have low:11/50<=X*X\/11/50<=Y*Y:=by
  rcases hlow' with h|h
  ·left;have:47/100<=X.abs:=by grind
   have:=bVq this (by grind);grind
  ·right;have:47/100<=Y.abs:=by grind
   have:=bVq this (by grind);grind
 have hPQ2:1/5<=Pp+Qq:=by rcases low with h|h<;>grind
 have hPQ3:Pp+Qq<=3:=by grind
 have aPQ:(Pp+Qq).abs=Pp+Qq:=fZ (by grind);obtain⟨r5,S,e5,i5,q5⟩:=mJ i3 i4 (kA (by rw[aPQ];grind));have c5:=q5.coarse;rw[aPQ,htt]at c5;have f5:=aA.1 c5;have hS2:1/10<=S:=by grind
 have hS3:S<=4:=by grind
 obtain⟨r6,T,e6,i6,t0,t1⟩:=aQj i5 (by grind)
  (by
   have:=kA (x:=4) (by rw[fZ (by decide)];decide);have h6:=cY (show(10:Int)<=1000 by decide);have h8:(2:Rat)^(10:Int)=1024:=by rw[show(10:Int)=((10:Nat):Int) by rfl,cN];rfl
   grind) (by have:=aDf (show(-1000:Int)<=-53 by decide);grind)
 have f6:=aA.1 t1;have e51:(2:Rat)^(-51:Int)<=4/1000:=by have h6:=fA (-51);have h7:=fA (-52);rw[show(-51-1:Int)=-52 by decide]at h6;rw[show(-52-1:Int)=-53 by decide]at h7;have:=aXp;grind
 have m51:=dI e51 (show(0:Rat)<=S by grind);have hT:T<=3/2*D:=by
  refine Rat.not_lt.1 λh=>?_
  have g1:=dI (bN h) (show(0:Rat)<=3/2*D by grind);have g2:=cG (bN h) (bN t0);grind
 have hTn:T*(2:Rat)^n<=3/2*d:=by
  have g1:=cG hT (bN (bG n));have g2:D*(2:Rat)^n=d:=by rw[<-hDD,Rat.mul_assoc,Rat.mul_comm ((2:Rat)^(-n)),hcan];grind
  grind
 have hTn0:0<=T*(2:Rat)^n:=bU (bN t0) (bN (bG n));have aTn:(T*(2:Rat)^n).abs=T*(2:Rat)^n:=fZ hTn0;obtain⟨r7,L,i7,q7,s7⟩:=uK (n:=n) i6 (by omega) (by omega) (by rw[aTn];have g1:=cY (show(401:Int)<=1023 by decide);have g2:=fA 401;rw[show(401-1:Int)=400 by decide]at g2;grind);have c7:=q7.coarse;rw[aTn,htt]at c7;have f7:=aA.1 c7;have htd:t<=d*(1/1000):=by have g1:=cG d1 (bN (bG (-175)));rw[<-bO,show(-900+-175:Int)=-1075 by decide,htt]at g1;have g2:=dI (aDf (show(-175:Int)<=-53 by decide)) (bN hd0);grind
 have hT4:1/4<=T:=by
  refine Rat.not_lt.1 λh=>?_
  have g2:=dI (bN h) (bN t0);grind
 have t20:t<=1/1048576:=by have:=cY (show(-1075:Int)<=-20 by decide);rw[htt,aPt]at this;exact this
 have k1:X0.abs*(999/1000)<=X.abs+t:=by grind
 have k2:Y0.abs*(999/1000)<=Y.abs+t:=by grind
 have sqs:∀{U V:Rat},U.abs*(999/1000)<=V.abs+t->V.abs<=51/50->U*U*(998/1000)<=V*V+3*t:=λ{U V} h1 h2=>by
  have e1:U.abs*U.abs=U*U:=by rw[<-bD,fZ (aT _)]
  have e2:V.abs*V.abs=V*V:=by rw[<-bD,fZ (aT _)]
  have nU:=aH U;have h3:=aC h1 h1 (bU nU (by grind)) (show 0<=V.abs+t by grind);have h4:=cG h2 (bN ht0);have h5:=cG t20 (bN ht0);have h6:=aT U;grind
 have j1:=sqs k1 bX1;have j2:=sqs k2 bY1;have k3:X*X+Y*Y≥11/50:=by rcases low with h|h<;>grind
 have k8:X0*X0+Y0*Y0<=102/100*(T*T):=by have:=aT X0;have:=aT Y0;grind
 have v1:=bTp aX c1 (aH X0) (bN ht0);have v2:=bTp aY c2 (aH Y0) (bN ht0);have v10:=bTo v1 v2 (bN ux1) (bN uy1) t20 (bN ht0) hlow' f3.2 f4.2 f5.2 f6.2 m51 (cR (by decide +kernel) hS2);have hP0:=bG n;have hX0:x=X0*(2:Rat)^n:=by rw[<-hXX,Rat.mul_assoc,Rat.mul_comm ((2:Rat)^(-n)),hcan];grind
 have hY0:y=Y0*(2:Rat)^n:=by rw[<-hYY,Rat.mul_assoc,Rat.mul_comm ((2:Rat)^(-n)),hcan];grind
 have k9:x*x+y*y<=102/100*((T*(2:Rat)^n)*(T*(2:Rat)^n)):=by have:=cG k8 (aT ((2:Rat)^n));rw[hX0,hY0];grind
 have k9':(T*(2:Rat)^n)*(T*(2:Rat)^n)<=102/100*(x*x+y*y):=by have:=cG v10 (aT ((2:Rat)^n));rw[hX0,hY0];grind
 have gn:(2:Rat)^(-800:Int)<=(2:Rat)^n:=by
  have q:(2:Rat)^(-800:Int)<=G:=by
   rcases hlo with ⟨h1,h2⟩|h|h;· exfalso;subst h1;subst h2;rw[fO]at hG;exact hG0 (by rcases hG with h|h<;>exact h)
   ·exact cR h gx
   ·exact cR h gy
  exact cR q (bN n2)
 have hT5:=cG hT4 (bN hP0);have tw:t<=T*(2:Rat)^n*(1/1000):=by have g1:=cG gn (bN (bG (-275)));rw[<-bO,show(-800+-275:Int)=-1075 by decide,htt]at g1;have g2:=cY (show(-275:Int)<=-20 by decide);rw[aPt]at g2;have g3:=dI g2 (bN hP0);grind
 have w1:T*(2:Rat)^n*(998/1000)<=L:=by grind
 have w1':L<=T*(2:Rat)^n*(1002/1000):=by grind
 have w0:0<=L:=cR (bU hTn0 (by grind)) w1;have w2:=aC w1 w1 (bU hTn0 (by grind)) w0;have w2':=aC w1' w1' w0 (bU hTn0 (by grind));generalize T*(2:Rat)^n=W at *
 have w3:=bU hTn0 hTn0;refine⟨r7,L,i7,w0,by grind,by grind,by grind,λR k=>?_⟩;have hG0':¬(G=((0:Int):Rat)):=by simpa using hG0
 rw[hpre,aJ,qT hg hJ];simp only[hG0',decide_false];unfold yU aKj;rw[hgk,hfr];rw[show(0-n)=-n by omega,qI (by omega) (by omega),s1,s2];simp only[wR,aGs];rw[aK e3,aK e4,aK e5,aK e6,s7]
end Go.Vm
