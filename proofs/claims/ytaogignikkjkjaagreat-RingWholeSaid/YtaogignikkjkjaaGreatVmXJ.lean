/- A part of the evaluator and of what is told of floats; no conditions. -/
import Derived.Test.YtaogignikkjkjaaGreatVmXB
import Derived.Test.YtaogignikkjkjaaGreatVmP26
import Derived.Test.YtaogignikkjkjaaGreatVmX0
set_option linter.unusedSectionVars false
set_option linter.unusedSimpArgs false
set_option linter.unusedVariables false
set_option maxRecDepth 1000000
namespace Go.Vx
open Go.Vm Ieee
theorem rl_of_near {a b:Cp} {d g:Rat} (hb:Ng b g) (g0:0<g) (h:Nm (a-b) d):Rl a b (d/g):=by
 have hn:=ng_ne hb g0
 obtain⟨i1,_⟩:=inv_sizes hb g0 (r:=b.nsq+1) ⟨by have:=b.nsq_nonneg;grind,by have:=b.nsq_nonneg;have:=Rat.mul_nonneg this this;grind⟩ (by have:=b.nsq_nonneg;grind)
 refine⟨(a-b)*b.inv,(h.mul i1).mono (by rw[Rat.div_def];exact Rat.le_refl),?_⟩
 rw[Cp.mul_add,Cp.mul_one,Cp.mul_left_comm,Cp.inv_mul hn,Cp.mul_one]
 exact Cp.ext' (by simp only[Cp.add_re,Cp.sub_re];grind) (by simp only[Cp.add_im,Cp.sub_im];grind)
theorem ng_neg {a:Cp} {r:Rat} (h:Ng a r):Ng (-a) r:=by
 have e:(-a).nsq=a.nsq:=by unfold Cp.nsq;simp only[Cp.neg_re,Cp.neg_im];grind
 exact⟨h.1,by rw[e];exact h.2⟩
theorem inv_of_mul {b x:Cp} (hb:b.nsq≠0) (h:b*x=Cp.one):b.inv=x:=Cp.cancel hb (by rw[Cp.inv_mul hb,h])
theorem of_nsq {x:Rat} (h:x≠0):(Cp.of x).nsq≠0:=by
 unfold Cp.nsq; simp only[Cp.of_re,Cp.of_im]
 have:=sq_nonneg x
 intro e
 have:x*x=0:=by grind
 rcases Rat.mul_eq_zero.1 this with h1|h1<;>exact h h1
theorem of_inv {x:Rat} (h:x≠0):(Cp.of x).inv=Cp.of x⁻¹:=inv_of_mul (of_nsq h) (by rw[← Cp.of_mul_of,Rat.mul_inv_cancel _ h];rfl)
theorem off_ok:(9:Rat)*(2*(2300*eps))≤1/100:=by rw[eps_eq];decide +kernel
theorem pole_rl {V C E b:Cp} {R:Rat} {m:Nat} (R1:1≤R) (hm:m≤9) (hb:Ng b (49/100)) (hE:Nm (Cp.of R⁻¹*E-b) (1127*eps)) (hV:Rl V (C*E.inv.pw m) (100*eps)):Rl V (C*(Cp.of R⁻¹).pw m*b.inv.pw m) (42000*eps):=by
 have ep:=eps_pos; have et:=eps_tiny; have bn:=ng_ne hb (by decide +kernel); have r1:Rl (Cp.of R⁻¹*E) b (2300*eps):=(rl_of_near hb (by decide +kernel) hE).mono (div_le (by decide +kernel) (by grind))
 obtain⟨r2,an⟩:=r1.inv (by grind) bn
 have mm:(m:Rat)≤9:=by exact_mod_cast hm
 have m0:(0:Rat)≤(m:Rat):=by exact_mod_cast Nat.zero_le m
 have k0:=off_ok; have k1:=Rat.mul_le_mul_of_nonneg_right mm (show 0≤2*(2300*eps) by grind); have r3:=rl_pw r2 (by grind) m (by grind); have Rn:R≠0:=by grind
 have eE:E=Cp.of R*(Cp.of R⁻¹*E):=by
  rw[← Cp.mul_assoc,← Cp.of_mul_of,Rat.mul_inv_cancel _ Rn]
  exact(Cp.one_mul E).symm
 have eI:E.inv=Cp.of R⁻¹*(Cp.of R⁻¹*E).inv:=by
  conv=>lhs;rw[eE]
  rw[inv_mul_inv (of_nsq Rn) an,of_inv Rn]
 have r4:=(Rl.refl (C*(Cp.of R⁻¹).pw m) (δ:=0) Rat.le_refl).mul r3; have eV:C*(Cp.of R⁻¹).pw m*(Cp.of R⁻¹*E).inv.pw m=C*E.inv.pw m:=by
  rw[eI,Cp.pw_mul,Cp.mul_assoc]
 rw[eV]at r4
 refine(hV.trans r4).mono ?_
 have k2:(m:Rat)*(2*(2300*eps))*(1+(m:Rat)*(2*(2300*eps)))≤41820*eps:=by
  have:=Rat.mul_nonneg m0 (show 0≤2*(2300*eps) by grind)
  have:=Rat.mul_le_mul_of_nonneg_left (show 1+(m:Rat)*(2*(2300*eps))≤101/100 by grind) this
  grind
 have k3:=Rat.mul_nonneg (Rat.le_of_lt ep) (show 0≤(m:Rat)*(2*(2300*eps))*(1+(m:Rat)*(2*(2300*eps))) by
  have:=Rat.mul_nonneg m0 (show 0≤2*(2300*eps) by grind)
  exact Rat.mul_nonneg this (by grind))
 generalize (m:Rat)*(2*(2300*eps))*(1+(m:Rat)*(2*(2300*eps)))=Y at *
 have k4:=Rat.mul_le_mul_of_nonneg_right et (show 0≤41820*eps by grind); have k5:=Rat.mul_le_mul_of_nonneg_left k2 (Rat.le_of_lt ep); grind
theorem off_dE:101/100*(42000*eps)≤dE:=by rw[eps_eq];unfold dE;decide +kernel
theorem off_small:42000*eps≤1/1000:=by rw[eps_eq];decide +kernel
section
variable {n:Nat} {z w:Nat→Cp} (hz:Pts rhoP sigP n z) (hw:Pts rhoP sigP n w) (hzw:∀ k,k<n→z k*w k=Cp.one) (hn:0<n)
 {V E:Nat→Cp} {l:Nat→Rat} {mn R:Rat} {C γ:Cp} {m:Nat} (R1:1≤R) (hm1:1≤m) (hm:m≤9)
 (hE:∀ k,k<n→Nm (Cp.of R⁻¹*E k-(z k-γ)) (1127*eps)) (hV:∀ k,k<n→Rl (V k) (C*(E k).inv.pw m) (100*eps)) (hl:∀ k,k<n→Nm (V k) (l k)) (hs:rsm l n=(n:Rat)*mn)
include hz hw hzw hn R1 hm1 hm hE hV hl hs
theorem mn_pos:0≤mn:=by
 have h1:=rsm_nonneg (f:=l) (n:=n) fun k hk=>(hl k hk).1
 rw[hs]at h1
 have n0:(0:Rat)<(n:Rat):=by exact_mod_cast hn
 refine Rat.not_lt.1 fun hl=>?_
 have:=Rat.mul_lt_mul_of_pos_left hl n0
 grind
theorem dE_use {k:Nat} (hk:k<n) {X:Cp} (h:Rl (V k) X (42000*eps)):Nm (V k-X) (dE*(l k+mn)):=by
 have ep:=eps_pos; have m0:=mn_pos hz hw hzw hn R1 hm1 hm hE hV hl hs
 refine(rl_err h (by grind) off_small (hl k hk)).mono ?_
 have l0:=(hl k hk).1; have a:=Rat.mul_le_mul_of_nonneg_right off_dE l0; have b:=Rat.mul_nonneg dE_pos m0; grind
theorem inn_elw (hγ:Nm γ (5075/10000)):Side (.inn γ qB m)∧Elw n z w (.inn γ qB m) (C*(Cp.of R⁻¹).pw m) V l mn:=by
 have ok:(Fc.geo γ qB).Ok rhoP:=⟨5075/10000,hγ,by have:=rho_in;unfold qB;grind,by unfold qB;decide +kernel⟩
 refine⟨.inn γ m ok hm1 hm,hl,hs,fun k hk=>?_⟩
 have zg:=w_pos hz hw hzw hn hk; have bg:Ng (z k-γ) (49/100):=by
  have:=ng_sub zg hγ.neg (by decide +kernel)
  rw[← Cp.sub_eq]at this
  exact this.mono (by decide +kernel) (by decide +kernel)
 have h:=pole_rl R1 hm bg (hE k hk) (hV k hk); have e:(z k-γ).inv=w k*(Fc.geo γ qB).at (w k):=by
  refine inv_of_mul (ng_ne bg (by decide +kernel)) ?_
  have e:=Cp.inv_mul (geo_bd hw.one ok (hw.at_ k hk)).2.1
  rw[← Cp.mul_assoc,Cp.sub_mul,hzw k hk]
  exact e
 rw[e,Cp.pw_mul]at h
 exact dE_use hz hw hzw hn R1 hm1 hm hE hV hl hs hk h
theorem out_elw (hγ:Ng γ (197058/100000)):Side (.out (repF γ.inv qB m))∧Elw n z w (.out (repF γ.inv qB m)) (C*(Cp.of R⁻¹).pw m*(-γ.inv).pw m) V l mn:=by
 have gn:=ng_ne hγ (by decide +kernel); have hβ:Nm γ.inv (50747/100000):=by
  obtain⟨i1,_⟩:=inv_sizes hγ (by decide +kernel) (r:=γ.nsq+1) ⟨by have:=γ.nsq_nonneg;grind,by have:=γ.nsq_nonneg;have:=Rat.mul_nonneg this this;grind⟩ (by have:=γ.nsq_nonneg;grind)
  exact i1.mono (by decide +kernel)
 have ok:(Fc.geo γ.inv qB).Ok rhoP:=⟨50747/100000,hβ,by have:=rho_in;unfold qB;grind,by unfold qB;decide +kernel⟩
 refine⟨.out γ.inv m ok hm,hl,hs,fun k hk=>?_⟩
 have bg:Ng (z k-γ) (49/100):=by
  have zs:=(hz.at_ k hk).mono (show rhoP≤101/100 by have:=rho_in;grind); have a:=ng_neg hγ
  have:=ng_sub a zs (by decide +kernel)
  rw[show -γ+z k=z k-γ by rw[Cp.sub_eq,Cp.add_comm]]at this
  exact this.mono (by decide +kernel) (by decide +kernel)
 have h:=pole_rl R1 hm bg (hE k hk) (hV k hk); have gb:=geo_bd hz.one ok (hz.at_ k hk); have e:(z k-γ).inv=-γ.inv*(Fc.geo γ.inv qB).at (z k):=by
  refine inv_of_mul (ng_ne bg (by decide +kernel)) ?_
  have e:=Cp.inv_mul gb.2.1; have e2:z k-γ=-γ*(Cp.one-γ.inv*z k):=by
   have:γ*(γ.inv*z k)=z k:=by rw[← Cp.mul_assoc,Cp.inv_mul gn,Cp.one_mul]
   rw[Cp.mul_sub,Cp.mul_one]
   have e3:-γ*(γ.inv*z k)=-(γ*(γ.inv*z k)):=Cp.ext' (by simp only[Cp.mul_re,Cp.neg_re,Cp.neg_im];grind) (by simp only[Cp.mul_im,Cp.neg_re,Cp.neg_im];grind)
   rw[e3,this]
   exact Cp.ext' (by simp only[Cp.sub_re,Cp.neg_re];grind) (by simp only[Cp.sub_im,Cp.neg_im];grind)
  show (z k-γ)*(-γ.inv*(Cp.one-γ.inv*z k).inv)=Cp.one
  rw[e2]
  generalize Cp.one-γ.inv*z k=A at *
  have g2:=Cp.inv_mul gn
  have:-γ*A*(-γ.inv*A.inv)=γ*γ.inv*(A*A.inv):=by
   generalize γ.inv=B; generalize A.inv=D; exact Cp.ext' (by simp only[Cp.mul_re,Cp.mul_im,Cp.neg_re,Cp.neg_im];grind) (by simp only[Cp.mul_re,Cp.mul_im,Cp.neg_re,Cp.neg_im];grind)
  rw[this,g2,e,Cp.mul_one]
 rw[e,Cp.pw_mul,← Cp.mul_assoc]at h
 show Nm (V k-C*(Cp.of R⁻¹).pw m*(-γ.inv).pw m*prodF (repF γ.inv qB m) (z k)) _
 rw[repF_prod]
 exact dE_use hz hw hzw hn R1 hm1 hm hE hV hl hs hk h
end
theorem zero_ok:(Fc.geo Cp.zero qB).Ok rhoP:=⟨0,nm_zero,by rw[Rat.zero_mul];unfold qB;decide +kernel,by unfold qB;decide +kernel⟩
theorem stream_elw {n:Nat} {z w:Nat→Cp} {C:Cp} {V:Nat→Cp} {l:Nat→Rat} {m:Rat} (hn:0<n) (hV:∀ k,k<n→V k=C) (hl:∀ k,k<n→Nm (V k) (l k)) (hs:rsm l n=(n:Rat)*m):
  Side (.out (repF Cp.zero qB 0))∧Elw n z w (.out (repF Cp.zero qB 0)) C V l m:=by
 refine⟨.out Cp.zero 0 zero_ok (by omega),hl,hs,fun k hk=>?_⟩
 have e:V k-C*(Sd.out (repF Cp.zero qB 0)).at_ (z k) (w k)=Cp.zero:=by
  show V k-C*Cp.one=Cp.zero
  rw[hV k hk,Cp.mul_one,Cp.sub_self]
 rw[e]
 have m0:0≤m:=by
  have h1:=rsm_nonneg (f:=l) (n:=n) fun k hk=>(hl k hk).1
  rw[hs]at h1
  have n0:(0:Rat)<(n:Rat):=by exact_mod_cast hn
  refine Rat.not_lt.1 fun hl=>?_
  have:=Rat.mul_lt_mul_of_pos_left hl n0
  grind
 have l0:=(hl k hk).1; exact nm_zero.mono (Rat.mul_nonneg dE_pos (by grind))
theorem pw_dist {a b:Cp} {s d:Rat} (ha:Nm a s) (hb:Nm b s) (hd:Nm (a-b) d):∀ m:Nat,Nm (a.pw (m+1)-b.pw (m+1)) (((m+1:Nat):Rat)*d*s^m)
 |0=>by
  rw[Cp.pw_one,Cp.pw_one,Rat.pow_zero,show ((0+1:Nat):Rat)=1 from rfl,Rat.one_mul,Rat.mul_one]
  exact hd
 |m+1=>by
  have ih:=pw_dist ha hb hd m; have e:a.pw (m+1+1)-b.pw (m+1+1)=(a.pw (m+1)-b.pw (m+1))*a+b.pw (m+1)*(a-b):=by
   show a.pw (m+1)*a-b.pw (m+1)*b=_
   rw[Cp.sub_mul,Cp.mul_sub]
   exact Cp.ext' (by simp only[Cp.add_re,Cp.sub_re];grind) (by simp only[Cp.add_im,Cp.sub_im];grind)
  rw[e]
  refine((ih.mul ha).add ((nm_pw hb (m+1)).mul hd)).mono ?_
  have c:((m+1+1:Nat):Rat)=((m+1:Nat):Rat)+1:=by push_cast;rfl
  rw[c,Rat.pow_succ]
  grind
def etaC (j:Nat) (s:Rat):Rat:=(match j with|0=>0|p+1=>((p+1:Nat):Rat)*(1127*eps)*s^p)+100*eps*s^j
theorem corner_near {a b e:Cp} {s:Rat} (ha:Nm a s) (hb:Nm b s) (hd:Nm (a-b) (1127*eps)) (he:Nm e (100*eps)) (j:Nat):Nm (a.pw j*(Cp.one+e)-b.pw j) (etaC j s):=by
 have e1:a.pw j*(Cp.one+e)-b.pw j=(a.pw j-b.pw j)+a.pw j*e:=by
  rw[Cp.mul_add,Cp.mul_one]
  exact Cp.ext' (by simp only[Cp.add_re,Cp.sub_re];grind) (by simp only[Cp.add_im,Cp.sub_im];grind)
 rw[e1]
 have h2:=(nm_pw ha j).mul he; unfold etaC; cases j with
 |zero=>
  refine(Nm.add (r:=0) ?_ h2).mono (by grind)
  show Nm (Cp.one-Cp.one) 0
  rw[Cp.sub_self];exact nm_zero
 |succ p=>exact((pw_dist ha hb hd p).add h2).mono (by grind)
theorem eta_far {j:Nat} (hj:j≤3) {s u:Rat} (hs0:0≤s) (hs:s≤3813/1000*u) (hu:42/100≤u):etaC j s≤125000*eps*u^j:=by
 have ep:=eps_pos; have u0:0≤u:=by grind
 have s2:=mul_mono' hs hs hs0 (by grind); have su:=mul_mono' hs (Rat.le_refl (a:=u)) u0 (by grind); have s3:=mul_mono' s2 hs hs0 (by have:=Rat.mul_nonneg u0 u0;grind); have u1:1≤100/42*u:=by grind
 have u2:u≤100/42*(u*u):=by have:=Rat.mul_le_mul_of_nonneg_right u1 u0;grind
 have u3:u*u≤100/42*(u*u*u):=by have:=Rat.mul_le_mul_of_nonneg_right u1 (Rat.mul_nonneg u0 u0);grind
 have uu:=Rat.mul_nonneg u0 u0; have uuu:=Rat.mul_nonneg uu u0
 match j,hj with
 |0,_=>
  show 0+100*eps*s^0≤125000*eps*u^0
  rw[Rat.pow_zero,Rat.pow_zero];grind
 |1,_=>
  show ((0+1:Nat):Rat)*(1127*eps)*s^0+100*eps*s^1≤125000*eps*u^1
  rw[Rat.pow_zero,Rat.pow_succ,Rat.pow_zero,Rat.pow_succ,Rat.pow_zero,show ((0+1:Nat):Rat)=1 from rfl]
  have:=Rat.mul_le_mul_of_nonneg_left (show 1127+100*s≤125000*u by grind) (Rat.le_of_lt ep)
  grind
 |2,_=>
  show ((1+1:Nat):Rat)*(1127*eps)*s^1+100*eps*s^2≤125000*eps*u^2; simp only[Rat.pow_succ,Rat.pow_zero]
  rw[show ((1+1:Nat):Rat)=2 from rfl]
  have:=Rat.mul_le_mul_of_nonneg_left (show 2254*s+100*(s*s)≤125000*(u*u) by grind) (Rat.le_of_lt ep)
  grind
 |3,_=>
  show ((2+1:Nat):Rat)*(1127*eps)*s^2+100*eps*s^3≤125000*eps*u^3; simp only[Rat.pow_succ,Rat.pow_zero]
  rw[show ((2+1:Nat):Rat)=3 from rfl]
  have:=Rat.mul_le_mul_of_nonneg_left (show 3381*(s*s)+100*(s*s*s)≤125000*(u*u*u) by grind) (Rat.le_of_lt ep)
  grind
theorem eta_close {j:Nat} (hj:j≤3) {s:Rat} (hs0:0≤s) (hs:s≤1601/1000):etaC j s≤143500*eps*(399/1000)^j:=by
 have ep:=eps_pos; have s2:=mul_mono' hs hs hs0 (by decide +kernel); have s3:=mul_mono' s2 hs hs0 (by decide +kernel)
 match j,hj with
 |0,_=>
  show 0+100*eps*s^0≤143500*eps*(399/1000)^0
  rw[Rat.pow_zero,Rat.pow_zero];grind
 |1,_=>
  show ((0+1:Nat):Rat)*(1127*eps)*s^0+100*eps*s^1≤143500*eps*(399/1000)^1; simp only[Rat.pow_succ,Rat.pow_zero]
  rw[show ((0+1:Nat):Rat)=1 from rfl]
  have:=Rat.mul_le_mul_of_nonneg_left (show 1127+100*s≤143500*(399/1000) by grind) (Rat.le_of_lt ep)
  grind
 |2,_=>
  show ((1+1:Nat):Rat)*(1127*eps)*s^1+100*eps*s^2≤143500*eps*(399/1000)^2; simp only[Rat.pow_succ,Rat.pow_zero]
  rw[show ((1+1:Nat):Rat)=2 from rfl]
  have:=Rat.mul_le_mul_of_nonneg_left (show 2254*s+100*(s*s)≤143500*(399/1000*(399/1000)) by grind) (Rat.le_of_lt ep)
  grind
 |3,_=>
  show ((2+1:Nat):Rat)*(1127*eps)*s^2+100*eps*s^3≤143500*eps*(399/1000)^3; simp only[Rat.pow_succ,Rat.pow_zero]
  rw[show ((2+1:Nat):Rat)=3 from rfl]
  have:=Rat.mul_le_mul_of_nonneg_left (show 3381*(s*s)+100*(s*s*s)≤143500*(399/1000*(399/1000)*(399/1000)) by grind) (Rat.le_of_lt ep)
  grind
theorem far_dE:125000*eps≤998/1000*dE:=by rw[eps_eq];unfold dE;decide +kernel
theorem close_dE:143500*eps≤998/1000*dE:=by rw[eps_eq];unfold dE;decide +kernel
section
variable {n:Nat} {z w:Nat→Cp} (hz:Pts rhoP sigP n z) (hw:Pts rhoP sigP n w) (hzw:∀ k,k<n→z k*w k=Cp.one) (hn:0<n)
include hz hw hzw hn
theorem lin_far {a:Cp} {r:Rat} {k:Nat} (hr:r=a.re.abs+a.im.abs) (h3:k≤3) (hr3:3/5≤r):Ng (csm (fun i=>prodF (repL a (r+1/1000) k) (z i)) n) ((n:Rat)*(999/1000*(7/10*r)^k)):=by
 have n0:(0:Rat)<(n:Rat):=by exact_mod_cast hn
 have hnm:Nm a r:=by rw[hr];exact nm_abs a
 have hc:r+(rhoP-1)≤r+1/1000:=by rw[hr];exact lin_c a
 have gg:Ng (-a) (7/10*r):=by
  refine⟨by grind,?_⟩
  have e:(-a).nsq=a.re*a.re+a.im*a.im:=by unfold Cp.nsq;simp only[Cp.neg_re,Cp.neg_im];grind
  rw[e,hr]
  exact seven
 have G:=ng_pw gg k; have G0:0<(7/10*r)^k:=pow_pos' (by grind) k; have hl:=lin_one hz hw hzw hn hnm hc k h3; have ratio:(1+(r+1/1000))^k≤56*(7/10*r)^k:=by
  have e1:(1+(r+1/1000))^k≤(382/100*(7/10*r))^k:=pow_up (by grind) (by grind) k
  rw[pow_mulR]at e1
  refine Rat.le_trans e1 (Rat.mul_le_mul_of_nonneg_right ?_ (Rat.le_of_lt G0))
  exact Rat.le_trans (pow_le_pow (by decide +kernel) h3) (by decide +kernel)
 have big:Ng (csm (fun i=>prodF (repL a (r+1/1000) k) (z i)) n) ((n:Rat)*(999/1000*(7/10*r)^k)):=by
  have a1:Ng (Cp.of (n:Rat)*(-a).pw k) ((n:Rat)*(7/10*r)^k):=by
   refine Ng.mul ⟨Rat.le_of_lt n0,?_⟩ G
   unfold Cp.nsq;simp only[Cp.of_re,Cp.of_im];grind
  have small:(1+(r+1/1000))^k*EE≤1/1000*(7/10*r)^k:=by
   have i1:=Rat.mul_le_mul_of_nonneg_right ratio EE_pos; have i2:=Rat.mul_le_mul_of_nonneg_left EE_le (Rat.le_of_lt G0); grind
  have i3:=Rat.mul_le_mul_of_nonneg_left small (Rat.le_of_lt n0); have p1:=Rat.mul_pos n0 G0
  have:=ng_sub a1 hl (by grind)
  have e:Cp.of (n:Rat)*(-a).pw k+(csm (fun i=>prodF (repL a (r+1/1000) k) (z i)) n-Cp.of (n:Rat)*(-a).pw k)=csm (fun i=>prodF (repL a (r+1/1000) k) (z i)) n:=Cp.ext' (by simp only[Cp.add_re,Cp.sub_re];grind) (by simp only[Cp.add_im,Cp.sub_im];grind)
  rw[e]at this
  exact this.mono (by grind) (by grind)
 exact big
theorem corner_elw {V E:Nat→Cp} {l:Nat→Rat} {mn R r:Rat} {C γ:Cp} {j:Nat} (R1:1≤R) (hj:j≤3) (hr:r=γ.re.abs+γ.im.abs)
  (hE:∀ k,k<n→Nm (Cp.of R⁻¹*E k-(z k-γ)) (1127*eps)) (hV:∀ k,k<n→Rl (V k) (C*(E k).pw j) (100*eps)) (hl:∀ k,k<n→Nm (V k) (l k)) (hs:rsm l n=(n:Rat)*mn):
  Side (.out (repL γ (r+1/1000) j))∧Elw n z w (.out (repL γ (r+1/1000) j)) (C*(Cp.of R).pw j) V l mn:=by
 have ep:=eps_pos; have et:=eps_tiny; have n0:(0:Rat)<(n:Rat):=by exact_mod_cast hn
 have m0:0≤mn:=by
  have h1:=rsm_nonneg (f:=l) (n:=n) fun k hk=>(hl k hk).1
  rw[hs]at h1
  refine Rat.not_lt.1 fun hl=>?_
  have:=Rat.mul_lt_mul_of_pos_left hl n0
  grind
 have r0:0≤r:=by rw[hr];have:=abs_nonneg γ.re;have:=abs_nonneg γ.im;grind
 have hnm:Nm γ r:=by rw[hr];exact nm_abs γ
 have Rn:R≠0:=by grind
 have hψ:∀ k,k<n→∃ ψ,V k=C*(Cp.of R).pw j*ψ∧Nm (ψ-(z k-γ).pw j) (etaC j (r+1001/1000)):=fun k hk=>by
  obtain⟨e,e1,e2⟩:=hV k hk
  refine⟨(Cp.of R⁻¹*E k).pw j*(Cp.one+e),?_,?_⟩
  ·have eE:E k=Cp.of R*(Cp.of R⁻¹*E k):=by
    rw[← Cp.mul_assoc,← Cp.of_mul_of,Rat.mul_inv_cancel _ Rn]
    exact(Cp.one_mul _).symm
   rw[e2]
   conv=>lhs;rw[eE]
   rw[Cp.pw_mul]
   simp only[Cp.mul_assoc]
  ·have zs:=(hz.at_ k hk).mono (show rhoP≤1000001/1000000 by have:=rho_in;grind); have hb:Nm (z k-γ) (r+1001/1000):=(zs.sub hnm).mono (by grind); have ha:Nm (Cp.of R⁻¹*E k) (r+1001/1000):=((hE k hk).near (zs.sub hnm)).mono (by grind); exact corner_near ha hb (hE k hk) e1 j
 obtain⟨ψ,hψ⟩:∃ ψ:Nat→Cp,∀ k,k<n→V k=C*(Cp.of R).pw j*ψ k∧Nm (ψ k-(z k-γ).pw j) (etaC j (r+1001/1000)):=by
  classical
  refine⟨fun k=>if h:k<n then Classical.choose (hψ k h) else Cp.zero,fun k hk=>?_⟩
  simp only[hk,dif_pos]
  exact Classical.choose_spec (hψ k hk)
 generalize C*(Cp.of R).pw j=K at *
 have done:∀{G:Rat},0<G→Nm K (mn/(998/1000*G))→etaC j (r+1001/1000)≤998/1000*dE*G→∀ k,k<n→Nm (V k-K*(Sd.out (repL γ (r+1/1000) j)).at_ (z k) (w k)) (dE*(l k+mn)):=fun{G} G0 hK hη k hk=>by
  obtain⟨h1,h2⟩:=hψ k hk
  show Nm (V k-K*prodF (repL γ (r+1/1000) j) (z k)) _
  rw[repL_prod,h1,← Cp.mul_sub]
  refine(hK.mul (h2.mono hη)).mono ?_
  have e:mn/(998/1000*G)*(998/1000*dE*G)=mn*dE:=by
   have:=div_back (a:=mn) (c:=998/1000*G) (by grind)
   generalize mn/(998/1000*G)=D at *
   grind
  rw[e]
  have:=Rat.mul_nonneg dE_pos (hl k hk).1
  grind
 refine⟨.lin γ r j hr hj,hl,hs,?_⟩
 rcases(Rat.le_total:3/5≤r∨r≤3/5) with hr3|hr3
 ·have far:=lin_far hz hw hzw hn hr hj hr3; have G0:0<(7/10*r)^j:=pow_pos' (by grind) j; have eta:=eta_far hj (s:=r+1001/1000) (u:=7/10*r) (by grind) (by grind) (by grind); have eta2:etaC j (r+1001/1000)≤998/1000*dE*(7/10*r)^j:=Rat.le_trans eta (Rat.mul_le_mul_of_nonneg_right far_dE (Rat.le_of_lt G0)); refine done G0 ?_ eta2; have hd:=nm_csm (n:=n) (f:=fun k=>ψ k-prodF (repL γ (r+1/1000) j) (z k)) (r:=etaC j (r+1001/1000)) fun k hk=>by
   show Nm (ψ k-prodF (repL γ (r+1/1000) j) (z k)) _
   rw[repL_prod];exact(hψ k hk).2
  rw[csm_sub]at hd
  have small:etaC j (r+1001/1000)≤1/1000*(7/10*r)^j:=by
   refine Rat.le_trans eta2 (Rat.mul_le_mul_of_nonneg_right ?_ (Rat.le_of_lt G0))
   unfold dE;decide +kernel
  have i1:=Rat.mul_le_mul_of_nonneg_left small (Rat.le_of_lt n0); have p1:=Rat.mul_pos n0 G0; have big:=ng_sub far hd (by grind); have e:csm (fun k=>prodF (repL γ (r+1/1000) j) (z k)) n+(csm (fun k=>ψ k) n-csm (fun k=>prodF (repL γ (r+1/1000) j) (z k)) n)=csm (fun k=>ψ k) n:=Cp.ext' (by simp only[Cp.add_re,Cp.sub_re];grind) (by simp only[Cp.add_im,Cp.sub_im];grind)
  rw[e]at big
  have big2:Ng (csm (fun k=>ψ k) n) ((n:Rat)*(998/1000*(7/10*r)^j)):=big.mono (by grind) (by grind); refine ng_div big2 (by grind) ?_; have ev:csm (fun k=>ψ k) n*K=csm V n:=by
   rw[Cp.mul_comm,← csm_mul]
   exact csm_congr fun k hk=>((hψ k hk).1).symm
  rw[ev]
  refine(nm_csm_rsm hl).mono ?_
  rw[hs]
  have e2:(n:Rat)*(998/1000*(7/10*r)^j)*(mn/(998/1000*(7/10*r)^j))=(n:Rat)*mn:=by
   have:=div_back (a:=mn) (c:=998/1000*(7/10*r)^j) (by grind)
   generalize mn/(998/1000*(7/10*r)^j)=D at *
   rw[← this];grind
  rw[e2]
  exact Rat.le_refl
 ·obtain⟨i,hi,hlow⟩:=rsm_low (f:=l) (c:=mn) hn (by rw[hs];exact Rat.le_refl)
  have G0:(0:Rat)<(399/1000)^j:=pow_pos' (by decide +kernel) j; have eta:=eta_close hj (s:=r+1001/1000) (by grind) (by grind); have eta2:etaC j (r+1001/1000)≤998/1000*dE*(399/1000)^j:=Rat.le_trans eta (Rat.mul_le_mul_of_nonneg_right close_dE (Rat.le_of_lt G0)); refine done G0 ?_ eta2; have far:Ng (z i-γ) (399/1000):=by
   have a1:=w_pos hz hw hzw hn hi
   have:=ng_sub a1 hnm.neg (by grind)
   rw[← Cp.sub_eq]at this
   exact this.mono (by decide +kernel) (by grind)
  have q:=ng_pw far j; have small:etaC j (r+1001/1000)≤2/1000*(399/1000)^j:=by
   refine Rat.le_trans eta2 (Rat.mul_le_mul_of_nonneg_right ?_ (Rat.le_of_lt G0))
   unfold dE;decide +kernel
  have big:=ng_sub q (hψ i hi).2 (by grind); have e:(z i-γ).pw j+(ψ i-(z i-γ).pw j)=ψ i:=Cp.ext' (by simp only[Cp.add_re,Cp.sub_re];grind) (by simp only[Cp.add_im,Cp.sub_im];grind)
  rw[e]at big
  have big2:Ng (ψ i) (998/1000*(399/1000)^j):=big.mono (by grind) (by grind); refine ng_div big2 (by grind) ?_; have e2:998/1000*(399/1000)^j*(mn/(998/1000*(399/1000)^j))=mn:=by
   rw[Rat.mul_comm];exact div_back (by grind)
  rw[e2,Cp.mul_comm,← (hψ i hi).1]
  exact(hl i hi).mono hlow
end
def Fit (r:Rat):Prop:=r=0∨(2:Rat)^(-400:Int)≤r
theorem nm_nought {A:Cp} (h:Nm A 0):A=Cp.zero:=zero_of_nsq (by have:=h.2;have:=A.nsq_nonneg;grind)
theorem mulK_abs {a b c d:Nat} {A B:Cp} (hA:IsZ a b A) (hB:IsZ c d B) {r s:Rat} (rA:Nm A r) (sB:Nm B s) (big:16*(r*s)+1≤big200) (fr:Fit r) (fs:Fit s):
  ∃ p q P,IsZ p q P∧Nm (P-A*B) (eps*(r*s))∧∀(R:Type) (k:Nat→Nat→Option R),mulK R a b c d k=k p q:=by
 have h0:A=Cp.zero∨B=Cp.zero∨(4*tn≤1/1000*eps*(r*s)):=by
  rcases fr with h|h
  ·left;rw[h]at rA;exact nm_nought rA
  rcases fs with g|g
  ·right;left;rw[g]at sB;exact nm_nought sB
  right;right; have q:=mul_mono' h g (Rat.le_of_lt (p2_pos _)) rA.1
  rw[← p2_add]at q
  have e:=tn_eps (q:=800) (by decide)
  have:=tn_pos
  have:=Rat.mul_le_mul_of_nonneg_left (show (2:Rat)^(-(((800:Nat):Int)))≤r*s from q) (show 0≤1/1000*eps by have:=eps_pos;grind)
  grind
 have ep:=eps_pos; have el:=eps_le; have t0:=tn_pos; have ts:=tn_small
 obtain⟨A1,A2⟩:=hA
 obtain⟨B1,B2⟩:=hB
 obtain⟨a1,a2⟩:=size_of rA
 obtain⟨b1,b2⟩:=size_of sB
 have bd:∀{u v:Rat},u.abs≤r→v.abs≤s→u.abs*v.abs≤r*s:=fun{u v} h1 h2=>mul_mono' h1 h2 (abs_nonneg v) rA.1
 have rs0:=Rat.mul_nonneg rA.1 sB.1
 obtain⟨x1,X1,f1,i1,e1,z1⟩:=fine_mul A1 B1 (Rat.le_trans (bd a1 b1) (by grind))
 obtain⟨x2,X2,f2,i2,e2,z2⟩:=fine_mul A2 B2 (Rat.le_trans (bd a2 b2) (by grind))
 obtain⟨x3,X3,f3,i3,e3,z3⟩:=fine_mul A1 B2 (Rat.le_trans (bd a1 b2) (by grind))
 obtain⟨x4,X4,f4,i4,e4,z4⟩:=fine_mul A2 B1 (Rat.le_trans (bd a2 b1) (by grind))
 have sz:∀{u X:Rat} {v w:Rat},(X-u).abs≤eps/4*(v.abs*w.abs)+tn→u=v*w→v.abs≤r→w.abs≤s→X.abs≤2*(r*s)+1/4:=fun{u X v w} h1 h2 h3 h4=>by
  have q:=bd h3 h4
  have:=abs_add_le (X-u) u
  rw[show X-u+u=X by grind,h2,abs_mul]at this
  have c:=Rat.mul_le_mul_of_nonneg_right (show eps/4≤1/2 by grind) (Rat.mul_nonneg (abs_nonneg v) (abs_nonneg w))
  rw[h2]at h1
  grind
 have s1:=sz e1 rfl a1 b1; have s2:=sz e2 rfl a2 b2; have s3:=sz e3 rfl a1 b2; have s4:=sz e4 rfl a2 b1
 obtain⟨y1,Y1,g1,j1,d1⟩:=sub_is i1 i2 (big200_lt (Rat.le_trans (show (X1-X2).abs≤X1.abs+X2.abs by have:=abs_add_le X1 (-X2);rw[abs_neg]at this;grind) (by grind)))
 obtain⟨y2,Y2,g2,j2,d2⟩:=add_is i3 i4 (big200_lt (Rat.le_trans (abs_add_le X3 X4) (by grind)))
 have run:∀(R:Type) (k:Nat→Nat→Option R),mulK R a b c d k=k y1 y2:=fun R k=>by
  unfold mulK
  rw[bindF_eq f1,bindF_eq f2,bindF_eq g1,bindF_eq f3,bindF_eq f4,bindF_eq g2]
 refine⟨y1,y2,⟨Y1,Y2⟩,⟨j1,j2⟩,?_,run⟩
 have p1:(Y1-(A.re*B.re+-(A.im*B.im))).abs≤501/1000*eps*(A.re.abs*B.re.abs+A.im.abs*B.im.abs)+4*tn:=by
  refine part_err (X1:=X1) (X2:=-X2) e1 ?_ (by rw[abs_mul];exact Rat.le_refl) (by rw[abs_neg,abs_mul];exact Rat.le_refl) ?_
  ·rw[show -X2 - -(A.im*B.im)=-(X2-A.im*B.im) by grind,abs_neg];exact e2
  ·have:=d1.fine
   have t:=abs_add_le X1 (-X2)
   rw[abs_neg,show X1+-X2=X1-X2 by grind]at t
   rw[abs_neg,show Y1-(X1+-X2)=Y1-(X1-X2) by grind]
   have:=Rat.mul_le_mul_of_nonneg_right t (show 0≤eps/4 by grind)
   grind
 have p2:(Y2-(A.re*B.im+A.im*B.re)).abs≤501/1000*eps*(A.re.abs*B.im.abs+A.im.abs*B.re.abs)+4*tn:=by
  refine part_err (X1:=X3) (X2:=X4) e3 e4 (by rw[abs_mul];exact Rat.le_refl) (by rw[abs_mul];exact Rat.le_refl) ?_
  have:=d2.fine
  have t:=abs_add_le X3 X4
  have:=Rat.mul_le_mul_of_nonneg_right t (show 0≤eps/4 by grind)
  grind
 have zero_all:(A.re=0∧A.im=0)∨(B.re=0∧B.im=0)→Nm (⟨Y1,Y2⟩-A*B) (eps*(r*s)):=fun h=>by
  have q1:X1=0:=z1 (h.imp (fun h=>h.1) fun h=>h.1); have q2:X2=0:=z2 (h.imp (fun h=>h.2) fun h=>h.2); have q3:X3=0:=z3 (h.imp (fun h=>h.1) fun h=>h.2); have q4:X4=0:=z4 (h.imp (fun h=>h.2) fun h=>h.1); subst q1 q2 q3 q4; have w1:=rnd_zero d1 (by grind); have w2:=rnd_zero d2 (by grind)
  have:A*B=Cp.zero:=by
   rcases h with h|h
   ·refine Cp.ext' ?_ ?_
    ·rw[Cp.mul_re,h.1,h.2,Cp.zero_re];grind
    ·rw[Cp.mul_im,h.1,h.2,Cp.zero_im];grind
   ·refine Cp.ext' ?_ ?_
    ·rw[Cp.mul_re,h.1,h.2,Cp.zero_re];grind
    ·rw[Cp.mul_im,h.1,h.2,Cp.zero_im];grind
  rw[this,show (⟨Y1,Y2⟩:Cp)=Cp.zero from Cp.ext' w1 w2,Cp.sub_self]
  exact nm_zero.mono (Rat.mul_nonneg (Rat.le_of_lt ep) rs0)
 rcases h0 with h0|h0|htn
 ·exact zero_all (.inl (by rw[h0];exact⟨rfl,rfl⟩))
 ·exact zero_all (.inr (by rw[h0];exact⟨rfl,rfl⟩))
 ·have c1:=cauchy (a:=A.re) (b:=A.im) (c:=B.re) (d:=B.im); have c2:=cauchy (a:=A.re) (b:=A.im) (c:=B.im) (d:=B.re); have hN:(A.re*A.re+A.im*A.im)*(B.re*B.re+B.im*B.im)≤(r*s)*(r*s):=by
   have:=mul_mono' rA.2 sB.2 B.nsq_nonneg (Rat.mul_nonneg rA.1 rA.1)
   have e:A.nsq*B.nsq=(A.re*A.re+A.im*A.im)*(B.re*B.re+B.im*B.im):=rfl
   rw[e]at this
   grind
  have hN2:(A.re*A.re+A.im*A.im)*(B.im*B.im+B.re*B.re)≤(r*s)*(r*s):=by
   rw[show B.im*B.im+B.re*B.re=B.re*B.re+B.im*B.im by grind];exact hN
  have nn:∀ u v:Rat,0≤u.abs*v.abs:=fun u v=>Rat.mul_nonneg (abs_nonneg u) (abs_nonneg v)
  have q1:=sq_part p1 (by have:=nn A.re B.re;have:=nn A.im B.im;grind) rs0 htn (Rat.le_trans c1 hN) Rat.le_refl; have q2:=sq_part p2 (by have:=nn A.re B.im;have:=nn A.im B.re;grind) rs0 htn (Rat.le_trans c2 hN2) Rat.le_refl
  refine⟨Rat.mul_nonneg (Rat.le_of_lt ep) rs0,?_⟩
  have e:((⟨Y1,Y2⟩:Cp)-A*B).nsq=(Y1-(A.re*B.re+-(A.im*B.im)))*(Y1-(A.re*B.re+-(A.im*B.im)))+(Y2-(A.re*B.im+A.im*B.re))*(Y2-(A.re*B.im+A.im*B.re)):=by
   unfold Cp.nsq; simp only[Cp.sub_re,Cp.sub_im,Cp.mul_re,Cp.mul_im]
   rw[show Y1-(A.re*B.re-A.im*B.im)=Y1-(A.re*B.re+-(A.im*B.im)) by grind]
  rw[e]
  have ee:=Rat.mul_nonneg (Rat.mul_nonneg (Rat.le_of_lt ep) (Rat.le_of_lt ep)) (Rat.mul_nonneg rs0 rs0); generalize (Y1-(A.re*B.re+-(A.im*B.im)))*(Y1-(A.re*B.re+-(A.im*B.im)))=U at *
  generalize (Y2-(A.re*B.im+A.im*B.re))*(Y2-(A.re*B.im+A.im*B.re))=V at *
  grind
def Adds (a b c:Nat×Nat):Prop:=∀(R:Type) (k:Nat→Nat→Option R),addK R a.1 a.2 b.1 b.2 k=k c.1 c.2
theorem adds_near {a b:Nat×Nat} {X Y:Cp} {B:Rat} (hX:IsZ a.1 a.2 X) (hY:IsZ b.1 b.2 Y) (h1:Nm (X+Y) B) (fB:Fit B) (hB:B≤big200):∃ c Z,Adds a b c∧IsZ c.1 c.2 Z∧Nm (Z-(X+Y)) (eps/2*B):=by
 have ep:=eps_pos; have u1:=h1.re; have u2:=h1.im
 rw[Cp.add_re]at u1
 rw[Cp.add_im]at u2
 obtain⟨z1,Z1,e1,i1,q1⟩:=add_is hX.1 hY.1 (big200_lt (Rat.le_trans u1 hB))
 obtain⟨z2,Z2,e2,i2,q2⟩:=add_is hX.2 hY.2 (big200_lt (Rat.le_trans u2 hB))
 refine⟨(z1,z2),⟨Z1,Z2⟩,fun R k=>by unfold addK;rw[bindF_eq e1,bindF_eq e2],⟨i1,i2⟩,?_⟩
 rcases fB with h|h
 ·subst h; have a1:=abs_nonneg (X.re+Y.re); have a2:=abs_nonneg (X.im+Y.im); have x1:X.re+Y.re=0:=by have:=abs_le_iff.1 u1;grind
  have x2:X.im+Y.im=0:=by have:=abs_le_iff.1 u2;grind
  have w1:=rnd_zero' q1 x1; have w2:=rnd_zero' q2 x2; subst w1 w2; have e:(⟨0,0⟩:Cp)-(X+Y)=Cp.zero:=Cp.ext' (by show 0-(X.re+Y.re)=0;rw[x1];grind) (by show 0-(X.im+Y.im)=0;rw[x2];grind)
  rw[e]
  exact nm_zero.mono (by grind)
 ·have hb:(2:Rat)^(-1000:Int)≤B:=Rat.le_trans (p2_le (by decide)) h; have r1:=rnd_q q1 u1 hb; have r2:=rnd_q q2 u2 hb; have g:=nm_root (a:=⟨Z1,Z2⟩-(X+Y)) (r:=eps/4*B) r1 r2; refine g.mono ?_; have e0:=Rat.mul_nonneg (Rat.le_of_lt ep) h1.1; clear g r1 r2 hb h q1 q2 u1 u2; grind
theorem rsm_le_one {b:Nat→Rat} {n:Nat} (h0:∀ k,k<n→0≤b k) {j:Nat} (hj:j≤n):rsm b j≤rsm b n:=by
 induction n with
 |zero=>
      have:j=0:=by omega
      subst this;exact Rat.le_refl
 |succ n ih=>
  rcases Nat.lt_or_ge j (n+1) with h|h
  ·have a:=ih (fun k hk=>h0 k (by omega)) (by omega); have b1:=h0 n (by omega); show rsm b j≤rsm b n+b n; grind
  ·have:j=n+1:=by omega
   subst this;exact Rat.le_refl
theorem sum_words {q:Nat→Nat×Nat} {A:Nat→Cp} {b:Nat→Rat} {n:Nat} {B:Rat} (hn:n≤1000) (hA:∀ k,k<n→IsZ (q k).1 (q k).2 (A k)) (hb:∀ k,k<n→Nm (A k) (b k)) (hs:rsm b n≤B) (fB:Fit B) (hB:2*B≤big200):
  ∃ g:Nat→Nat×Nat,g 0=(0,0)∧(0<n→g 1=q 0)∧(∀ k,0<k→k<n→Adds (g k) (q k) (g (k+1)))∧∀ j,j≤n→∃ S,IsZ (g j).1 (g j).2 S∧Nm (S-csm A j) ((j:Rat)*(eps*B)):=by
 have ep:=eps_pos; have et:=eps_tiny; have b0:∀ k,k<n→0≤b k:=fun k hk=>(hb k hk).1
 have B0:0≤B:=Rat.le_trans (rsm_nonneg b0) hs; have fB2:Fit (2*B):=by
  rcases fB with h|h
  ·left;rw[h];grind
  ·right;grind
 have eB:=Rat.mul_nonneg (Rat.le_of_lt ep) B0; have key:∀ j,j≤n→∃ g:Nat→Nat×Nat,g 0=(0,0)∧(0<n→0<j→g 1=q 0)∧(∀ k,0<k→k<j→Adds (g k) (q k) (g (k+1)))∧∀ i,i≤j→∃ S,IsZ (g i).1 (g i).2 S∧Nm (S-csm A i) ((i:Rat)*(eps*B)):=by
  intro j; induction j with
  |zero=>
   intro _
   refine⟨fun _=>(0,0),rfl,fun _ h=>absurd h (by omega),fun k h1 h2=>absurd h2 (by omega),fun i hi=>?_⟩
   have:i=0:=by omega
   subst this
   refine⟨Cp.zero,⟨is_zero,is_zero⟩,?_⟩
   show Nm (Cp.zero-Cp.zero) _
   rw[Cp.sub_self]
   exact nm_zero.mono (by rw[show ((0:Nat):Rat)=0 from rfl];grind)
  |succ j ih=>
   intro hj
   obtain⟨g,g0,g1,g2,g3⟩:=ih (by omega)
   rcases Nat.eq_zero_or_pos j with h0|h0
   ·subst h0
    refine⟨fun i=>if i=0 then (0,0) else q 0,rfl,fun _ _=>rfl,fun k h1 h2=>absurd h2 (by omega),fun i hi=>?_⟩
    rcases Nat.eq_zero_or_pos i with hi0|hi0
    ·subst hi0
     refine⟨Cp.zero,⟨is_zero,is_zero⟩,?_⟩
     show Nm (Cp.zero-Cp.zero) _
     rw[Cp.sub_self]
     exact nm_zero.mono (by rw[show ((0:Nat):Rat)=0 from rfl];grind)
    ·have:i=1:=by omega
     subst this
     refine⟨A 0,hA 0 (by omega),?_⟩
     show Nm (A 0-(Cp.zero+A 0)) _
     rw[Cp.zero_add,Cp.sub_self]
     exact nm_zero.mono (by rw[show ((1:Nat):Rat)=1 from rfl];grind)
   ·obtain⟨S,iS,dS⟩:=g3 j (Nat.le_refl j)
    have hsum:Nm (csm A (j+1)) B:=(nm_csm_rsm (n:=j+1) fun k hk=>hb k (by omega)).mono (Rat.le_trans (rsm_le_one b0 hj) hs); have jn:(j:Rat)≤1000:=by exact_mod_cast (show j≤1000 by omega)
    have jB:(j:Rat)*(eps*B)≤B:=by
     have h1:=Rat.mul_le_mul_of_nonneg_right jn eB; have h2:=Rat.mul_le_mul_of_nonneg_right et B0; grind
    have e:S+A j-csm A (j+1)=S-csm A j:=by
     show S+A j-(csm A j+A j)=_; exact Cp.ext' (by simp only[Cp.add_re,Cp.sub_re];grind) (by simp only[Cp.add_im,Cp.sub_im];grind)
    have d2:Nm (S+A j-csm A (j+1)) ((j:Rat)*(eps*B)):=by rw[e];exact dS
    have big:Nm (S+A j) (2*B):=(d2.near hsum).mono (by grind)
    obtain⟨c,Z,ac,iZ,dZ⟩:=adds_near iS (hA j (by omega)) big fB2 hB
    refine⟨fun i=>if i=j+1 then c else g i,by simp[g0],fun a _=>?_,fun k h1 h2=>?_,fun i hi=>?_⟩
    ·have:¬ (1=j+1):=by omega
     simp only[this,if_false]
     exact g1 a h0
    ·rcases Nat.lt_or_ge k j with hk|hk
     ·have e1:¬ (k=j+1):=by omega
      have e2:¬ (k+1=j+1):=by omega
      simp only[e1,e2,if_false]
      exact g2 k h1 hk
     ·have:k=j:=by omega
      subst this; have e1:¬ (k=k+1):=by omega
      simp only[e1,if_false,if_true]
      exact ac
    ·rcases Nat.lt_or_ge i (j+1) with hi2|hi2
     ·have e1:¬ (i=j+1):=by omega
      simp only[e1,if_false]
      exact g3 i (by omega)
     ·have:i=j+1:=by omega
      subst this; simp only[if_true]
      refine⟨Z,iZ,(dZ.tri d2).mono ?_⟩
      have c1:((j+1:Nat):Rat)=(j:Rat)+1:=by push_cast;rfl
      rw[c1]
      grind
 obtain⟨g,g0,g1,g2,g3⟩:=key n (Nat.le_refl n)
 exact⟨g,g0,fun h=>g1 h h,g2,g3⟩
theorem addr_near {a b:Nat} {x y B:Rat} (ha:Is a x) (hb:Is b y) (h1:(x+y).abs≤B) (fB:Fit B) (hB:B≤big200):∃ c z,fbF .add a b=some c∧Is c z∧(z-(x+y)).abs≤eps/4*B:=by
 have ep:=eps_pos
 obtain⟨c,z,e1,i1,q1⟩:=add_is ha hb (big200_lt (Rat.le_trans h1 hB))
 refine⟨c,z,e1,i1,?_⟩
 rcases fB with h|h
 ·subst h; have x1:x+y=0:=by have:=abs_le_iff.1 h1;grind
  have w1:=rnd_zero' q1 x1; subst w1
  rw[x1,show (0:Rat)-0=0 by grind,abs_zero]
  grind
 ·exact rnd_q q1 h1 (Rat.le_trans (p2_le (by decide)) h)
theorem mulr_near {a b:Nat} {x y B:Rat} (ha:Is a x) (hb:Is b y) (h1:(x*y).abs≤B) (fB:Fit B) (hB:B≤big200):∃ c z,fbF .mul a b=some c∧Is c z∧(z-x*y).abs≤eps/4*B:=by
 have ep:=eps_pos
 obtain⟨c,z,e1,i1,q1⟩:=mul_is ha hb (big200_lt (Rat.le_trans h1 hB))
 refine⟨c,z,e1,i1,?_⟩
 rcases fB with h|h
 ·subst h; have x1:x*y=0:=by have:=abs_le_iff.1 h1;grind
  have w1:=rnd_zero' q1 x1; subst w1
  rw[x1,show (0:Rat)-0=0 by grind,abs_zero]
  grind
 ·exact rnd_q q1 h1 (Rat.le_trans (p2_le (by decide)) h)
theorem sum_reals {q:Nat→Nat} {A:Nat→Rat} {n:Nat} {B:Rat} (hn:n≤1000) (hA:∀ k,k<n→Is (q k) (A k)) (h0:∀ k,k<n→0≤A k) (hs:rsm A n≤B) (fB:Fit B) (hB:2*B≤big200):
  ∃ g:Nat→Nat,g 0=0∧(∀ k,k<n→fbF .add (g k) (q k)=some (g (k+1)))∧∀ j,j≤n→∃ S,Is (g j) S∧(S-rsm A j).abs≤(j:Rat)*(eps*B):=by
 have ep:=eps_pos; have et:=eps_tiny; have B0:0≤B:=Rat.le_trans (rsm_nonneg h0) hs; have fB2:Fit (2*B):=by
  rcases fB with h|h
  ·left;rw[h];grind
  ·right;grind
 have eB:=Rat.mul_nonneg (Rat.le_of_lt ep) B0; have key:∀ j,j≤n→∃ g:Nat→Nat,g 0=0∧(∀ k,k<j→fbF .add (g k) (q k)=some (g (k+1)))∧∀ i,i≤j→∃ S,Is (g i) S∧(S-rsm A i).abs≤(i:Rat)*(eps*B):=by
  intro j; induction j with
  |zero=>
   intro _
   refine⟨fun _=>0,rfl,fun k h2=>absurd h2 (by omega),fun i hi=>?_⟩
   have:i=0:=by omega
   subst this
   refine⟨0,is_zero,?_⟩
   show ((0:Rat)-0).abs≤_
   rw[show (0:Rat)-0=0 by grind,abs_zero,show ((0:Nat):Rat)=0 from rfl]
   grind
  |succ j ih=>
   intro hj
   obtain⟨g,g0,g2,g3⟩:=ih (by omega)
   obtain⟨S,iS,dS⟩:=g3 j (Nat.le_refl j)
   have jn:(j:Rat)≤1000:=by exact_mod_cast (show j≤1000 by omega)
   have jB:(j:Rat)*(eps*B)≤B:=by
    have h1:=Rat.mul_le_mul_of_nonneg_right jn eB; have h2:=Rat.mul_le_mul_of_nonneg_right et B0; grind
   have hsum:rsm A (j+1)≤B:=Rat.le_trans (rsm_le_one h0 hj) hs; have hsum0:0≤rsm A (j+1):=rsm_nonneg fun k hk=>h0 k (by omega)
   have e:S+A j-rsm A (j+1)=S-rsm A j:=by show S+A j-(rsm A j+A j)=_;grind
   have d2:(S+A j-rsm A (j+1)).abs≤(j:Rat)*(eps*B):=by rw[e];exact dS
   have big:(S+A j).abs≤2*B:=by
    have:=abs_le_iff.1 d2
    exact abs_le_iff.2 ⟨by grind,by grind⟩
   obtain⟨c,Z,ac,iZ,dZ⟩:=addr_near iS (hA j (by omega)) big fB2 hB
   refine⟨fun i=>if i=j+1 then c else g i,by simp[g0],fun k h2=>?_,fun i hi=>?_⟩
   ·rcases Nat.lt_or_ge k j with hk|hk
    ·have e1:¬ (k=j+1):=by omega
     have e2:¬ (k+1=j+1):=by omega
     simp only[e1,e2,if_false]
     exact g2 k hk
    ·have:k=j:=by omega
     subst this; have e1:¬ (k=k+1):=by omega
     simp only[e1,if_false,if_true]
     exact ac
   ·rcases Nat.lt_or_ge i (j+1) with hi2|hi2
    ·have e1:¬ (i=j+1):=by omega
     simp only[e1,if_false]
     exact g3 i (by omega)
    ·have:i=j+1:=by omega
     subst this; simp only[if_true]
     refine⟨Z,iZ,?_⟩
     have c1:((j+1:Nat):Rat)=(j:Rat)+1:=by push_cast;rfl
     rw[c1]
     have t:=abs_add_le (Z-(S+A j)) (S+A j-rsm A (j+1))
     rw[show Z-(S+A j)+(S+A j-rsm A (j+1))=Z-rsm A (j+1) by grind]at t
     grind
 exact key n (Nat.le_refl n)
theorem len_back {L W N S T P eps':Rat} (hP:0<P) (eW:W=T*P) (eN:N=S*(P*P)) (W0:0≤W) (e0:0≤eps') (e1:eps'≤1/1000) (hT:(T*T-S).abs≤S*eps') (hL:(L-W).abs≤eps'/4*W) (hS:0≤S):(L*L-N).abs≤4*eps'*N:=by
 have p2:=Rat.mul_nonneg (Rat.le_of_lt hP) (Rat.le_of_lt hP); have hW:(W*W-N).abs≤eps'*N:=by
  have e:W*W-N=(P*P)*(T*T-S):=by rw[eW,eN];grind
  rw[e,abs_mul,Rat.abs_of_nonneg p2]
  have:=Rat.mul_le_mul_of_nonneg_left hT p2
  rw[eN];grind
 have N0:0≤N:=by rw[eN];exact Rat.mul_nonneg hS p2
 have WW:=Rat.mul_nonneg W0 W0; have a:=abs_le_iff.1 hW; have en:=Rat.mul_le_mul_of_nonneg_right e1 N0; have en0:=Rat.mul_nonneg e0 N0; have hd:(L*L-W*W).abs≤6/10*eps'*(W*W):=by
  have e:L*L-W*W=(L-W)*(L-W+2*W):=by grind
  rw[e,abs_mul]
  have b1:(L-W+2*W).abs≤21/10*W:=by
   have t:=abs_add_le (L-W) (2*W)
   rw[Rat.abs_of_nonneg (show 0≤2*W by grind)]at t
   have:=Rat.mul_le_mul_of_nonneg_right e1 W0
   grind
  have m:=mul_mono' hL b1 (abs_nonneg _) (Rat.mul_nonneg (by grind) W0); have ew:=Rat.mul_nonneg e0 WW; grind
 have b:=abs_le_iff.1 hd; have w1:W*W≤1001/1000*N:=by grind
 have w2:=Rat.mul_le_mul_of_nonneg_left w1 e0; exact abs_le_iff.2 ⟨by grind,by grind⟩
theorem lengthK_ints {a b:Nat} {x y:Int} (ha:Is a (x:Rat)) (hb:Is b (y:Rat)) (h1:x.natAbs≤4000) (h2:y.natAbs≤4000) (h0:¬ (x=0∧y=0)):
  ∃ r L,Is r L∧0≤L∧(L*L-((x*x+y*y:Int):Rat)).abs≤4*eps*((x*x+y*y:Int):Rat)∧∀(R:Type) (k:Nat→Option R),lengthK R a b k=k r:=by
 have ep:=eps_pos; have et:=eps_tiny; have o4:(((4000:Nat):Int):Rat)=4000:=rfl; have n1:=int_abs_le h1; have n2:=int_abs_le h2
 rw[o4]at n1 n2
 obtain⟨g,G,hg,gx,gy,hG,hgk⟩:=greatestK_is ha hb
 have one_le:∀{u:Int},u≠0→1≤(u:Rat).abs:=fun{u} hu=>by
  rcases Int.lt_or_gt_of_ne hu with h|h
  ·have:(u:Rat)≤((-1:Int):Rat):=Rat.intCast_le_intCast.2 (by omega)
   rw[show ((-1:Int):Rat)=-1 from rfl]at this
   rw[Rat.abs_of_nonpos (by grind)]
   grind
  ·have:((1:Int):Rat)≤(u:Rat):=Rat.intCast_le_intCast.2 (by omega)
   rw[show ((1:Int):Rat)=1 from rfl]at this
   rw[Rat.abs_of_nonneg (by grind)]
   exact this
 have hG1:1≤G:=by
  by_cases hx:x=0
  ·exact Rat.le_trans (one_le fun hy=>h0 ⟨hx,hy⟩) gy
  ·exact Rat.le_trans (one_le hx) gx
 have hG4:G≤4000:=by rcases hG with h|h<;>grind
 have hG0:G≠0:=by grind
 have hpre:=lengthK_pre ha hb hg hG0 hgk
 obtain⟨w,n,m1,m2,m3,m4,hfr⟩:=frexpK_is hg hG0
 rw[Rat.abs_of_nonneg (show 0≤G by grind)]at m1 m2
 have nlo:1≤n:=by
  refine Int.not_lt.1 fun h=>?_
  have:=p2_le (show n≤0 by omega)
  rw[Rat.zpow_zero]at this
  grind
 have nhi:n≤12:=by
  refine Int.not_lt.1 fun h=>?_
  have:=p2_le (show (12:Int)≤n-1 by omega)
  rw[show (2:Rat)^(12:Int)=4096 by rw[show (12:Int)=((12:Nat):Int) by rfl,p2_nat];rfl]at this
  grind
 have pn:=p2_pos (-n); have pp:=p2_pos n; have hcan:(2:Rat)^n*(2:Rat)^(-n)=1:=p2_cancel n; have small:∀{u:Rat},u.abs≤G→(u*(2:Rat)^(-n)).abs≤1:=fun{u} h=>by
  rw[abs_mul,p2_abs]
  have:=Rat.mul_le_mul_of_nonneg_right (Rat.le_trans h (Rat.le_of_lt m2)) (Rat.le_of_lt pn)
  rwa [hcan]at this
 have sx:=small gx; have sy:=small gy; have lt23:∀{u:Rat},u.abs≤4→u.abs<(2:Rat)^(1023:Int):=fun{u} h=>lt_big (Rat.le_trans h (by decide +kernel))
 obtain⟨r1,X,i1,q1,s1⟩:=scaleK_is (n:=-n) ha (by omega) (by omega) (lt23 (by grind))
 obtain⟨r2,Y,i2,q2,s2⟩:=scaleK_is (n:=-n) hb (by omega) (by omega) (lt23 (by grind))
 have eX:X=(x:Rat)*(2:Rat)^(-n):=q1.rep x (-n) (by omega) (by omega) rfl; have eY:Y=(y:Rat)*(2:Rat)^(-n):=q2.rep y (-n) (by omega) (by omega) rfl
 rw[← eX]at sx
 rw[← eY]at sy
 have pd:(2:Rat)^(-n)*(2:Rat)^(-n)=(2:Rat)^(-n+-n):=(p2_add _ _).symm; have sqX:=mul_mono' sx sx (abs_nonneg X) (by decide); have sqY:=mul_mono' sy sy (abs_nonneg Y) (by decide)
 rw[abs_sq]at sqX sqY
 have zX:=sq_nonneg X; have zY:=sq_nonneg Y; have nab:∀{u:Int},u.natAbs≤4000→(u*u).natAbs≤16000000:=fun{u} h=>by
  rw[Int.natAbs_mul]
  exact Nat.le_trans (Nat.mul_le_mul h h) (by decide)
 have nx:=nab h1; have ny:=nab h2
 obtain⟨r3,P3,e3,i3,q3⟩:=mul_is i1 i1 (lt23 (by rw[Rat.abs_of_nonneg zX];grind))
 obtain⟨r4,P4,e4,i4,q4⟩:=mul_is i2 i2 (lt23 (by rw[Rat.abs_of_nonneg zY];grind))
 have c3:X*X=((x*x:Int):Rat)*(2:Rat)^(-n+-n):=by rw[eX,← pd];push_cast;grind
 have c4:Y*Y=((y*y:Int):Rat)*(2:Rat)^(-n+-n):=by rw[eY,← pd];push_cast;grind
 have v3:P3=X*X:=q3.rep (x*x) (-n+-n) (by omega) (by omega) c3; have v4:P4=Y*Y:=q4.rep (y*y) (-n+-n) (by omega) (by omega) c4; subst v3 v4
 obtain⟨r5,S,e5,i5,q5⟩:=add_is i3 i4 (lt23 (by rw[Rat.abs_of_nonneg (by grind)];grind))
 have c5:X*X+Y*Y=((x*x+y*y:Int):Rat)*(2:Rat)^(-n+-n):=by rw[c3,c4];push_cast;grind
 have v5:S=X*X+Y*Y:=q5.rep (x*x+y*y) (-n+-n) (by omega) (by omega) c5; have half:1/2≤X.abs∨1/2≤Y.abs:=by
  have hhalf:(2:Rat)^(n-1)*(2:Rat)^(-n)=1/2:=by
   rw[← p2_add,show n-1+-n=-1 by omega]
   have h3:=p2_half 0
   rw[Rat.zpow_zero,show (0-1:Int)=-1 by decide]at h3
   grind
  have:=Rat.mul_le_mul_of_nonneg_right m1 (Rat.le_of_lt pn)
  rw[hhalf]at this
  rcases hG with h|h
  ·left;rw[eX,abs_mul,p2_abs,← h];exact this
  ·right;rw[eY,abs_mul,p2_abs,← h];exact this
 have S1:1/4≤S:=by
  rw[v5]
  rcases half with h|h
  ·have:=mul_mono' h h (by decide +kernel) (abs_nonneg X)
   rw[abs_sq]at this
   grind
  ·have:=mul_mono' h h (by decide +kernel) (abs_nonneg Y)
   rw[abs_sq]at this
   grind
 have S2:S≤2:=by rw[v5];grind
 obtain⟨r6,T,e6,i6,t0,t1⟩:=sqrt_is i5 (by grind)
  (by
    have h6:=p2_le (show (10:Int)≤1000 by decide); have h8:(2:Rat)^(10:Int)=1024:=by rw[show (10:Int)=((10:Nat):Int) by rfl,p2_nat];rfl
    grind) (by have:=p2_small (show (-1000:Int)≤-53 by decide);grind)
 have hT2:T*T≤4:=by
  have:=abs_le_iff.1 t1
  have e51:(2:Rat)^(-51:Int)=eps:=rfl
  rw[e51]at this
  have:=Rat.mul_le_mul_of_nonneg_left et (show 0≤S by grind)
  grind
 have hT:T≤2:=by
  refine Rat.not_lt.1 fun h=>?_
  have g1:=mul_mono' (Rat.le_of_lt h) (Rat.le_of_lt h) (by decide) (Rat.le_of_lt t0); have g2:=Rat.mul_lt_mul_of_pos_left h t0; grind
 have hT3:1/4≤T:=by
  refine Rat.not_lt.1 fun h=>?_
  have g2:=Rat.mul_le_mul_of_nonneg_left (Rat.le_of_lt h) (Rat.le_of_lt t0)
  have:=abs_le_iff.1 t1
  have e51:(2:Rat)^(-51:Int)=eps:=rfl
  rw[e51]at this
  have:=Rat.mul_le_mul_of_nonneg_left et (show 0≤S by grind)
  grind
 have p12:(2:Rat)^n≤4096:=by
  have:=p2_le nhi
  rwa [show (2:Rat)^(12:Int)=4096 by rw[show (12:Int)=((12:Nat):Int) by rfl,p2_nat];rfl]at this
 have p1:1≤(2:Rat)^n:=by
  have:=p2_le (show (0:Int)≤n by omega)
  rwa [Rat.zpow_zero]at this
 have W0:0≤T*(2:Rat)^n:=Rat.mul_nonneg (Rat.le_of_lt t0) (Rat.le_of_lt pp); have Wb:T*(2:Rat)^n≤8192:=by
  have:=mul_mono' hT p12 (Rat.le_of_lt pp) (by decide)
  grind
 have Wl:1/4≤T*(2:Rat)^n:=by
  have:=mul_mono' hT3 p1 (by decide) (Rat.le_of_lt t0)
  grind
 obtain⟨r7,L,i7,q7,s7⟩:=scaleK_is (n:=n) i6 (by omega) (by omega) (lt_big (by rw[Rat.abs_of_nonneg W0];grind))
 have q8:=rnd_q q7 (B:=T*(2:Rat)^n) (by rw[Rat.abs_of_nonneg W0];exact Rat.le_refl) (Rat.le_trans p1000_le (by grind)); have eN:((x*x+y*y:Int):Rat)=S*((2:Rat)^n*(2:Rat)^n):=by
  rw[v5,c5,Rat.mul_assoc]
  have:(2:Rat)^(-n+-n)*((2:Rat)^n*(2:Rat)^n)=1:=by
   rw[← p2_add,← p2_add,show -n+-n+(n+n)=0 by omega,Rat.zpow_zero]
  rw[this,Rat.mul_one]
 have hfin:=len_back pp rfl eN W0 (Rat.le_of_lt ep) (by grind) t1 q8 (by grind)
 refine⟨r7,L,i7,?_,hfin,fun R k=>?_⟩
 ·have:=abs_le_iff.1 q8
  have:=Rat.mul_le_mul_of_nonneg_right et W0
  grind
 ·rw[hpre]
  unfold scaledK scaledB
  rw[hgk,hfr]
  rw[show (0-n)=-n by omega,wrapI (by omega) (by omega),s1,s2]
  simp only[squareK,sqrtK]
  rw[bindF_eq e3,bindF_eq e4,bindF_eq e5,bindF_eq e6,s7]
end Go.Vx
