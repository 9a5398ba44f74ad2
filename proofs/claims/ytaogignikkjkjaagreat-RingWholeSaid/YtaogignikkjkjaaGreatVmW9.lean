/- A part of the evaluator and of what is told of floats; no conditions. -/
import Derived.Test.YtaogignikkjkjaaGreatVmW4
import Derived.Test.YtaogignikkjkjaaGreatVmX1
import Derived.KernelRfl
set_option linter.unusedSimpArgs false
set_option linter.unusedVariables false
set_option maxRecDepth 1000000
set_option linter.unusedSectionVars false
namespace Go.Vx
open Go.Vm
theorem pow_small {e:Rat} (h0:0≤e):∀(m:Nat),(m:Rat)*e≤1/2→(1+e)^m≤1+2*(m:Rat)*e
 |0,_=>by rw[Rat.pow_zero,show ((0:Nat):Rat)=0 from rfl];grind
 |m+1,h=>by
  have c:((m+1:Nat):Rat)=(m:Rat)+1:=by push_cast;rfl
  rw[c]at h ⊢
  have ih:=pow_small h0 m (by grind); have m0:(0:Rat)≤(m:Rat):=by exact_mod_cast Nat.zero_le m
  rw[Rat.pow_succ]
  have h1:=Rat.mul_le_mul_of_nonneg_right ih (show 0≤1+e by grind); have h2:=Rat.mul_le_mul_of_nonneg_right (show (m:Rat)*e≤1/2 by grind) h0; grind
theorem one_le_pow {r:Rat} (h:1≤r):∀ m:Nat,1≤r^m
 |0=>by rw[Rat.pow_zero];exact Rat.le_refl
 |m+1=>by
  have ih:=one_le_pow h m
  have:=mul_mono' ih h (by decide) (Rat.le_trans (by decide) ih)
  rw[Rat.pow_succ]
  grind
theorem pow_le_pow {r:Rat} (h:1≤r) {m n:Nat} (hm:m≤n):r^m≤r^n:=by
 obtain⟨j,rfl⟩:∃ j,n=m+j:=⟨n-m,by omega⟩
 rw[pow_add]
 have:=Rat.mul_le_mul_of_nonneg_left (one_le_pow h j) (Rat.le_trans (by decide) (one_le_pow h m))
 grind
theorem pw_diff {a b:Cp} {r d:Rat} (ha:Nm a r) (hb:Nm b r) (h1:1≤r) (hd:Nm (a-b) d):∀ m:Nat,Nm (a.pw m-b.pw m) ((m:Rat)*d*r^m)
 |0=>by
  show Nm (Cp.one-Cp.one) _
  rw[Cp.sub_self,show ((0:Nat):Rat)=0 from rfl]
  exact nm_zero.mono (by grind)
 |m+1=>by
  have ih:=pw_diff ha hb h1 hd m; have e:a.pw (m+1)-b.pw (m+1)=(a.pw m-b.pw m)*a+b.pw m*(a-b):=by
   simp only[Cp.pw]
   rw[Cp.sub_mul,Cp.mul_sub]
   exact Cp.ext' (by simp only[Cp.add_re,Cp.sub_re];grind) (by simp only[Cp.add_im,Cp.sub_im];grind)
  rw[e]
  refine((ih.mul ha).add ((nm_pw hb m).mul hd)).mono ?_
  have c:((m+1:Nat):Rat)=(m:Rat)+1:=by push_cast;rfl
  rw[c,Rat.pow_succ]
  have p:=Rat.mul_nonneg (Rat.le_trans (by decide) (one_le_pow h1 m)) hd.1
  have:=Rat.mul_le_mul_of_nonneg_left h1 p
  grind
theorem csm_shift (f:Nat→Cp):∀ n,csm (fun k=>f (k+1)) n=csm f n+(f n-f 0)
 |0=>by simp only[csm];rw[Cp.sub_self,Cp.add_zero]
 |n+1=>by
  simp only[csm]
  rw[csm_shift f n]
  exact Cp.ext' (by simp only[Cp.add_re,Cp.sub_re];grind) (by simp only[Cp.add_im,Cp.sub_im];grind)
theorem ng_div {a b:Cp} {c d:Rat} (h:Ng a c) (hc:0<c) (g:Nm (a*b) (c*d)):Nm b d:=by
 have d0:0≤d:=by
  refine Rat.not_lt.1 fun hl=>?_
  have:=Rat.mul_lt_mul_of_pos_left hl hc
  have:=g.1
  grind
 refine⟨d0,?_⟩
 have g2:=g.2
 rw[Cp.nsq_mul]at g2
 have h5:=Rat.mul_le_mul_of_nonneg_right h.2 b.nsq_nonneg; have p1:=Rat.mul_pos hc hc; generalize b.nsq=S at *
 refine Rat.not_lt.1 fun hl=>?_
 have:=Rat.mul_lt_mul_of_pos_left hl p1
 grind
theorem quarter_far {N:Nat} (h:N≤4) {y:Rat} (hy:y.abs≤17/10):(csN ((N:Rat)*qP+y)-(quC N*csN y-quS N*snN y)).abs≤4*kP∧(snN ((N:Rat)*qP+y)-(quC N*snN y+quS N*csN y)).abs≤4*kP:=by
 have na:=quarter_size h qP_size.1 qP_size.2; have s:∀{a:Rat},a.abs≤63/10→a.abs+y.abs≤8:=fun ha=>by grind
 have s2:y.abs≤35/10:=by grind
 have a:=cs_add (x:=(N:Rat)*qP) (y:=y) (s na); have b:=cs_bd (x:=y) s2; exact quarter_mix (Rat.le_of_lt kP_small.1) (quarters h).1 (quarters h).2 b.1 b.2 tl_kP a.1 a.2
structure Circ (Q:Rat):Prop where
 eq:Q=((4:Nat):Rat)*qP
theorem circ_in {Q:Rat} (h:Circ Q):628318/100000≤Q∧Q≤628319/100000:=by
 rw[h.eq]
 have:=qP_in
 have e:((4:Nat):Rat)=4:=by norm_cast
 rw[e]
 generalize qP=q at *
 exact⟨by grind,by grind⟩
theorem circ_end {Q:Rat} (h:Circ Q):Nm (om Q-Cp.one) (2*kP):=by
 obtain⟨q1,q2⟩:=quarters (N:=4) (by decide)
 rw[← h.eq]at q1 q2
 refine(nm_root (r:=kP) ?_ ?_).mono (by have:=kp0;generalize kP=e at *;grind)
 ·rw[Cp.sub_re,om_re,Cp.one_re];exact q1
 ·rw[Cp.sub_im,om_im,Cp.one_im];exact q2
theorem circ_mid {Q y:Rat} (h:Circ Q) (hy:y.abs≤165/100):csN (Q/2+y)≤91/100:=by
 have q:=(quarter_far (N:=2) (by decide) (y:=y) (by grind)).1; have e:((2:Nat):Rat)*qP=Q/2:=by
  rw[h.eq,show ((4:Nat):Rat)=4 by norm_cast,show ((2:Nat):Rat)=2 by norm_cast]
  generalize qP=q; grind
 rw[e]at q
 have c:=cs_mid hy; have k:=kp_tiny; have g:=abs_le_iff.1 q; simp only[quC,quS]at g; generalize kP=e at *
 generalize csN (Q/2+y)=A at *
 generalize csN y=B at *
 generalize snN y=C at *
 grind
theorem circ_far {Q s:Rat} (h:Circ Q) (h0:0≤s) (hs:s≤3/2):csN (Q-s)≤1-s*s/4+4*kP:=by
 have q:=(quarter_far (N:=4) (by decide) (y:=-s) (by rw[abs_neg,Rat.abs_of_nonneg h0];grind)).1
 rw[← h.eq,(cs_neg s).1,(cs_neg s).2,show Q+-s=Q-s by grind]at q
 have c:=cs_low h0 hs; have g:=abs_le_iff.1 q; simp only[quC,quS]at g; generalize kP=e at *
 generalize csN (Q-s)=A at *
 generalize csN s=B at *
 generalize snN s=C at *
 grind
theorem circ_low {Q t h:Rat} (hQ:Circ Q) (h0:1227/100000≤h) (h1:h≤t) (h2:t≤Q-h):csN t≤1-1/30000:=by
 obtain⟨c1,c2⟩:=circ_in hQ
 have hh:1227/100000*(1227/100000)≤h*h:=sq_le_sq (by grind) h0; have k:=kp_tiny
 rcases(Rat.le_total:t≤3/2∨3/2≤t) with ht|ht
 ·have:=cs_low (t:=t) (by grind) ht
  have:=sq_le_sq (show 0≤h by grind) h1
  grind
 ·rcases(Rat.le_total:t≤Q-3/2∨Q-3/2≤t) with hu|hu
  ·have:=circ_mid hQ (y:=t-Q/2) (abs_le_iff.2 ⟨by grind,by grind⟩)
   rw[show Q/2+(t-Q/2)=t by grind]at this
   grind
  ·have:=circ_far hQ (s:=Q-t) (by grind) (by grind)
   rw[show Q-(Q-t)=t by grind]at this
   have:=sq_le_sq (show 0≤h by grind) (show h≤Q-t by grind)
   generalize kP=e at *
   grind
theorem om_off {Q t h:Rat} (hQ:Circ Q) (h0:1227/100000≤h) (h1:h≤t) (h2:t≤Q-h):Ng (om t-Cp.one) (1/200):=by
 obtain⟨c1,c2⟩:=circ_in hQ
 have l:=circ_low hQ h0 h1 h2; have b:=abs_le_iff.1 (om_len (x:=t) (abs_le_iff.2 ⟨by grind,by grind⟩))
 refine⟨by grind,?_⟩
 have e:(om t-Cp.one).nsq=(om t).nsq-2*csN t+1:=by
  unfold Cp.nsq
  rw[Cp.sub_re,Cp.sub_im,om_re,om_im,Cp.one_re,Cp.one_im]
  generalize csN t=A; generalize snN t=B; grind
 rw[e]
 have k:=kp_tiny; generalize (om t).nsq=N at *
 generalize csN t=A at *
 generalize kP=e at *
 grind
section
variable {Q h:Rat} {n:Nat} (hQ:Circ Q) (n1:128≤n) (n2:n≤512) (hh:(n:Rat)*h=Q)
include hQ n1 n2 hh
theorem h_in:1227/100000≤h∧h≤1/20:=by
 obtain⟨c1,c2⟩:=circ_in hQ
 have a:(128:Rat)≤(n:Rat):=by exact_mod_cast n1
 have b:(n:Rat)≤512:=by exact_mod_cast n2
 constructor
 ·refine Rat.not_lt.1 fun hl=>?_
  have:=Rat.mul_lt_mul_of_pos_left hl (show 0<(n:Rat) by grind)
  have:=Rat.mul_le_mul_of_nonneg_right b (show (0:Rat)≤1227/100000 by grind)
  grind
 ·refine Rat.not_lt.1 fun hl=>?_
  have:=Rat.mul_lt_mul_of_pos_left hl (show 0<(n:Rat) by grind)
  have:=Rat.mul_le_mul_of_nonneg_right a (show (0:Rat)≤1/20 by grind)
  grind
theorem kh_in {k:Nat} (hk:k≤n):0≤(k:Rat)*h∧(k:Rat)*h≤63/10:=by
 obtain⟨c1,c2⟩:=circ_in hQ
 obtain⟨h1,h2⟩:=h_in hQ n1 n2 hh
 have a:(k:Rat)≤(n:Rat):=by exact_mod_cast hk
 have k0:(0:Rat)≤(k:Rat):=by exact_mod_cast Nat.zero_le k
 have:=Rat.mul_le_mul_of_nonneg_right a (show 0≤h by grind)
 exact⟨Rat.mul_nonneg k0 (by grind),by grind⟩
theorem kh_abs {k:Nat} (hk:k≤n):((k:Rat)*h).abs≤63/10∧h.abs≤1/20:=by
 obtain⟨a,b⟩:=kh_in hQ n1 n2 hh hk
 obtain⟨h1,h2⟩:=h_in hQ n1 n2 hh
 exact⟨abs_le_iff.2 ⟨by grind,by grind⟩,abs_le_iff.2 ⟨by grind,by grind⟩⟩
theorem om_step {k:Nat} (hk:k≤n):Nm (om ((k+1:Nat)*h)-om ((k:Rat)*h)*om h) (2*kP):=by
 obtain⟨a,b⟩:=kh_abs hQ n1 n2 hh hk
 have:=om_add (x:=(k:Rat)*h) (y:=h) (by grind)
 rwa [show (k:Rat)*h+h=((k+1:Nat):Rat)*h by push_cast;grind]at this
theorem om_k {k:Nat} (hk:k≤n):Nm (om ((k:Rat)*h)) (1+6*kP):=om_bd (by have:=(kh_abs hQ n1 n2 hh hk).1;grind)
theorem om_h:Nm (om h) (1+6*kP):=om_bd (by have:=(kh_abs hQ n1 n2 hh (Nat.le_refl n)).2;grind)
theorem om_pw {m:Nat} (hm:m≤n):Nm ((om h).pw m-om ((m:Rat)*h)) (4*(m:Rat)*kP):=by
 induction m with
 |zero=>
  rw[show ((0:Nat):Rat)=0 from rfl,show (0:Rat)*h=0 by grind,om_zero]
  show Nm (Cp.one-Cp.one) _
  rw[Cp.sub_self]
  exact nm_zero.mono (by generalize kP=e;grind)
 |succ m ih=>
  have ih:=ih (by omega); have s:=(om_step hQ n1 n2 hh (k:=m) (by omega)).comm; have oh:=om_h hQ n1 n2 hh; have e:(om h).pw (m+1)-om ((m+1:Nat)*h)=((om h).pw m-om ((m:Rat)*h))*om h+(om ((m:Rat)*h)*om h-om ((m+1:Nat)*h)):=by
   simp only[Cp.pw]
   rw[Cp.sub_mul]
   exact Cp.ext' (by simp only[Cp.add_re,Cp.sub_re];grind) (by simp only[Cp.add_im,Cp.sub_im];grind)
  rw[e]
  refine((ih.mul oh).add s).mono ?_
  have c:((m+1:Nat):Rat)=(m:Rat)+1:=by push_cast;rfl
  rw[c]
  have m0:(0:Rat)≤(m:Rat):=by exact_mod_cast Nat.zero_le m
  have m1:(m:Rat)≤512:=by exact_mod_cast (show m≤512 by omega)
  have k:=kp_tiny; have k0:=kp0; clear ih s oh e c; generalize kP=e at *
  have q1:=Rat.mul_le_mul_of_nonneg_right m1 (Rat.mul_nonneg k0 k0); have q2:=Rat.mul_le_mul_of_nonneg_right k k0; grind
theorem om_sum {m:Nat} (hm1:1≤m) (hm2:m≤127):Nm (csm (fun k=>(om ((k:Rat)*h)).pw m) n) ((n:Rat)*((m:Rat)*(1/100000000000000000000000))):=by
 obtain⟨h1,h2⟩:=h_in hQ n1 n2 hh
 have k:=kp_tiny; have k0:=kp0; have m0:(1:Rat)≤(m:Rat):=by exact_mod_cast hm1
 have m1:(m:Rat)≤127:=by exact_mod_cast hm2
 have nn:(128:Rat)≤(n:Rat):=by exact_mod_cast n1
 have r2:(1+13*kP)^m≤2:=by
  have:=pow_small (e:=13*kP) (by generalize kP=e at *;grind) m (by
   have:=Rat.mul_le_mul_of_nonneg_right m1 k0
   generalize kP=e at *
   grind)
  have q:=Rat.mul_le_mul_of_nonneg_right m1 k0; generalize kP=e at *
  grind
 have hp:=om_pw hQ n1 n2 hh (m:=m) (by omega); have mh:h≤(m:Rat)*h∧(m:Rat)*h≤Q-h:=by
  have a:=Rat.mul_le_mul_of_nonneg_right m0 (show 0≤h by grind); have b:(m:Rat)+1≤(n:Rat):=by exact_mod_cast (show m+1≤n by omega)
  have c:=Rat.mul_le_mul_of_nonneg_right b (show 0≤h by grind)
  exact⟨by grind,by grind⟩
 have off:=om_off hQ h1 mh.1 mh.2; have offP:Ng ((om h).pw m-Cp.one) (1/300):=by
  have:=ng_sub off hp (by
   have q:=Rat.mul_le_mul_of_nonneg_right m1 k0; generalize kP=e at *
   grind)
  rw[show om ((m:Rat)*h)-Cp.one+((om h).pw m-om ((m:Rat)*h))=(om h).pw m-Cp.one from Cp.ext' (by simp only[Cp.add_re,Cp.sub_re];grind) (by simp only[Cp.add_im,Cp.sub_im];grind)]at this
  refine this.mono (by grind) ?_
  have q:=Rat.mul_le_mul_of_nonneg_right m1 k0; generalize kP=e at *
  grind
 have hk13:∀{z:Cp},Nm z (1+6*kP)→Nm z (1+13*kP):=fun hz=>hz.mono (by generalize kP=e at *;grind)
 have one13:1≤1+13*kP:=by generalize kP=e at *;grind
 have D:∀ k,k<n→Nm ((om ((k+1:Nat)*h)).pw m-((om ((k:Rat)*h))*om h).pw m) ((m:Rat)*(2*kP)*2):=fun k hk=>by
  have a:=hk13 (om_k hQ n1 n2 hh (k:=k+1) (by omega)); have b:Nm (om ((k:Rat)*h)*om h) (1+13*kP):=((om_k hQ n1 n2 hh (k:=k) (by omega)).mul (om_h hQ n1 n2 hh)).mono (by
   generalize kP=e at *
   have:=Rat.mul_le_mul_of_nonneg_left k k0
   grind)
  refine(pw_diff a b one13 (om_step hQ n1 n2 hh (k:=k) (by omega)) m).mono ?_
  exact Rat.mul_le_mul_of_nonneg_left r2 (Rat.mul_nonneg (by grind) (by generalize kP=e at *;grind))
 have En:Nm ((om ((n:Rat)*h)).pw m-Cp.one) ((m:Rat)*(2*kP)*2):=by
  have a:=hk13 (om_k hQ n1 n2 hh (k:=n) (Nat.le_refl n)); have c:=circ_end hQ
  rw[← hh]at c
  have:=pw_diff a (nm_one.mono one13) one13 c m
  rw[Cp.pw_unit]at this
  refine this.mono ?_
  exact Rat.mul_le_mul_of_nonneg_left r2 (Rat.mul_nonneg (by grind) (by generalize kP=e at *;grind))
 have key:((om h).pw m-Cp.one)*csm (fun k=>(om ((k:Rat)*h)).pw m) n=(((om ((n:Rat)*h)).pw m)-Cp.one)-csm (fun k=>(om ((k+1:Nat)*h)).pw m-((om ((k:Rat)*h))*om h).pw m) n:=by
  rw[csm_sub,csm_shift (fun k=>(om ((k:Rat)*h)).pw m) n]
  have e1:csm (fun k=>((om ((k:Rat)*h))*om h).pw m) n=(om h).pw m*csm (fun k=>(om ((k:Rat)*h)).pw m) n:=by
   rw[← csm_mul]
   refine csm_congr fun k _=>?_
   rw[Cp.pw_mul,Cp.mul_comm]
  rw[e1,Cp.sub_mul,Cp.one_mul]
  have e0:(om (((0:Nat):Rat)*h)).pw m=Cp.one:=by
   rw[show ((0:Nat):Rat)=0 from rfl,show (0:Rat)*h=0 by grind,om_zero,Cp.pw_unit]
  rw[e0]
  exact Cp.ext' (by simp only[Cp.add_re,Cp.sub_re];grind) (by simp only[Cp.add_im,Cp.sub_im];grind)
 have tot:=En.sub (nm_csm D)
 rw[← key]at tot
 refine ng_div offP (by grind) (tot.mono ?_)
 clear key tot D En offP off hp r2 hk13 one13; generalize kP=e at *
 have a1:=Rat.mul_le_mul_of_nonneg_right k (show 0≤(m:Rat) by grind); have a2:=Rat.mul_le_mul_of_nonneg_left a1 (show 0≤(n:Rat) by grind); have a3:=Rat.mul_le_mul_of_nonneg_right (show (1:Rat)≤(n:Rat) by grind) (Rat.mul_nonneg k0 (show 0≤(m:Rat) by grind)); have a4:=Rat.mul_nonneg (show 0≤(n:Rat) by grind) (show 0≤(m:Rat) by grind); grind
end
open Go.Vm Go
theorem lit_isI {w:Nat} {n:Int} (h:floatOfInt .f64 n=w) (hn:n.natAbs<2^53):Is w n:=by rw[← h];exact ofInt_is hn
theorem inv_mul_inv {a b:Cp} (ha:a.nsq≠0) (hb:b.nsq≠0):(a*b).inv=a.inv*b.inv:=by
 have hab:(a*b).nsq≠0:=fun e=>by rw[Cp.nsq_mul]at e;rcases Rat.mul_eq_zero.1 e with e|e<;>contradiction
 refine Cp.cancel hab ?_
 rw[Cp.inv_mul hab,Cp.mul_assoc,Cp.mul_left_comm b,Cp.inv_mul hb,Cp.mul_one,Cp.inv_mul ha]
theorem inv_one:Cp.one.inv=Cp.one:=by
 have h:Cp.one.nsq≠0:=by unfold Cp.nsq;simp only[Cp.one_re,Cp.one_im];grind
 have:=Cp.inv_mul h
 rwa [Cp.one_mul]at this
theorem nsq_pw {a:Cp} (h:a.nsq≠0):∀ n,(a.pw n).nsq≠0
 |0=>by show Cp.one.nsq≠0;unfold Cp.nsq;simp only[Cp.one_re,Cp.one_im];grind
 |n+1=>fun e=>by
  simp only[Cp.pw]at e
  rw[Cp.nsq_mul]at e
  rcases Rat.mul_eq_zero.1 e with e|e
  ·exact nsq_pw h n e
  ·exact h e
theorem inv_pw {a:Cp} (h:a.nsq≠0):∀ n,(a.pw n).inv=a.inv.pw n
 |0=>inv_one
 |n+1=>by simp only[Cp.pw];rw[inv_mul_inv (nsq_pw h n) h,inv_pw h n]
theorem Rl.inv {z Z:Cp} {δ:Rat} (h:Rl z Z δ) (hd:δ≤1/2) (hZ:Z.nsq≠0):Rl z.inv Z.inv (2*δ)∧z.nsq≠0:=by
 obtain⟨e,e1,rfl⟩:=h
 have g:=ng_one e1 (by grind); have hn:=ng_ne g (by grind); have hz:(Z*(Cp.one+e)).nsq≠0:=fun q=>by rw[Cp.nsq_mul]at q;rcases Rat.mul_eq_zero.1 q with q|q<;>contradiction
 refine⟨⟨(Cp.one+e).inv-Cp.one,?_,?_⟩,hz⟩
 ·have i:=(inv_sizes g (by grind) (nm_one.add e1) (by have:=e1.1;grind)).1; have q:(Cp.one+e).inv-Cp.one=-(e*(Cp.one+e).inv):=by
   have:=Cp.inv_mul hn
   rw[Cp.add_mul,Cp.one_mul]at this
   generalize (Cp.one+e).inv=u at *
   generalize e*u=v at *
   have h1:=congrArg Cp.re this; have h2:=congrArg Cp.im this; simp only[Cp.add_re,Cp.add_im]at h1 h2; exact Cp.ext' (by simp only[Cp.sub_re,Cp.neg_re];grind) (by simp only[Cp.sub_im,Cp.neg_im];grind)
  rw[q]
  refine(e1.mul i).neg.mono ?_
  have d:=Rat.mul_inv_cancel (1-δ) (by grind); have p:=Rat.inv_pos.2 (show 0<1-δ by grind); generalize (1-δ)⁻¹=u at *
  have:u≤2:=by
   have:=Rat.mul_le_mul_of_nonneg_right (show 1/2≤1-δ by grind) (Rat.le_of_lt p)
   grind
  have:=Rat.mul_le_mul_of_nonneg_left this e1.1
  grind
 ·rw[inv_mul_inv hZ hn]
  congr 1
  exact Cp.ext' (by simp only[Cp.add_re,Cp.sub_re];grind) (by simp only[Cp.add_im,Cp.sub_im];grind)
theorem noughtK_any {a b:Nat} {z:Cp} (h:IsZ a b z):∃ t,∀(R:Type) (k:Bool→Option R),noughtK R a b k=k t:=by
 by_cases hz:z.nsq=0
 ·have e:=zero_of_nsq hz; subst e
  refine⟨true,fun R k=>?_⟩
  unfold noughtK; have h1:Is a 0:=h.1; have h2:Is b 0:=h.2
  rw[forceB_eq,eqF_is h1 is0]
  simp only[decide_true]
  rw[forceB_eq,eqF_is h2 is0]
  simp
 ·exact⟨false,fun R k=>noughtK_no h hz k⟩
theorem mD_pos:0<mD:=by unfold mD;decide +kernel
theorem mD_one:mD≤1:=by unfold mD;decide +kernel
theorem rD_one:1≤rD:=by unfold rD;decide +kernel
structure Seen (a1 a2 z1 z2 d1 d2:Nat) (D z:Cp):Prop where
 hz:IsZ z1 z2 z
 bz:Nm z 100000
 hs:∀(R:Type) (k:Nat→Nat→Option R),subK R z1 z2 a1 a2 k=k d1 d2
 hD:IsZ d1 d2 D
section
variable {a1 a2 s1 s2 p z1 z2 d1 d2:Nat} {X Y S T:Int} {D z:Cp}
theorem spd_stream (h:ElD 1 a1 a2 s1 s2 p X Y S T) (g:Seen a1 a2 z1 z2 d1 d2 D z) (R:Type) (k:Nat→Nat→Int→Option R):spdK R 1 a1 a2 s1 s2 p z1 z2 k=k s1 s2 0:=by
 obtain⟨t,ht⟩:=noughtK_any g.hD
 show vS1 a1 a2 s1 s2 p z1 z2 _ _=_; unfold vS1 valP
 rw[h.chk]
 simp only[decide_true]
 rw[placeK_is g.hz.1 g.hz.2 (by have:=g.bz.re;grind) (by have:=g.bz.im;grind),forceB_eq]
 simp only
 rw[g.hs,ht,forceB_eq]
 cases t<;>exact told_fin' (isC_z h.hs) _ _
theorem quo_sizes {P W:Cp} (hP:P≠Cp.zero→Ng P (1/10)) (bP:Nm P 20000) {n:Nat} (hn:n≤9) (gW:Ng W (mD^n/2)) (nW:Nm W (2*rD^n)):P=Cp.zero∨(Ng (P*W.inv) (1/10*(2*rD^n)⁻¹)∧Nm (P*W.inv) (20000*(mD^n/2)⁻¹)∧(2:Rat)^(-300:Int)≤1/10*(2*rD^n)⁻¹∧20000*(mD^n/2)⁻¹≤(2:Rat)^(299:Int)):=by
 by_cases h:P=Cp.zero
 ·exact .inl h
 ·have m0:0<mD^n/2:=by have:=Rat.pow_pos mD_pos (n:=n);grind
  have r0:0<2*rD^n:=by have:=Rat.pow_pos (show 0<rD by have:=rD_one;grind) (n:=n);grind
  obtain⟨i1,i2⟩:=inv_sizes gW m0 nW r0
  refine .inr ⟨(hP h).mul i2,bP.mul i1,?_,?_⟩
  ·have e:=Rat.mul_inv_cancel (2*rD^n) (by grind); have p:=Rat.inv_pos.2 r0; have b:2*rD^n≤(2:Rat)^(200:Int):=by
    have h1:=pow_le_pow (r:=rD) rD_one (show n≤10 by omega); have h2:=rD_pow; unfold big200 at h2
    have:=Rat.pow_pos (show 0<rD by have:=rD_one;grind) (n:=10)
    grind
   have c1:=p2_cancel 200; have q:=p2_pos (-200); have h3:=Rat.mul_le_mul_of_nonneg_right (Rat.mul_le_mul_of_nonneg_right b (Rat.le_of_lt p)) (Rat.le_of_lt q)
   rw[e]at h3
   have h5:=p2_le (show (-300:Int)≤-200+-4 by decide)
   rw[p2_add]at h5
   have h4:(2:Rat)^(-4:Int)≤1/10:=by
    have c4:=p2_cancel 4; have e4:(2:Rat)^(4:Int)=16:=by rw[show (4:Int)=((4:Nat):Int) by rfl,p2_nat];rfl
    rw[e4]at c4
    grind
   have h6:=Rat.mul_le_mul_of_nonneg_left h4 (Rat.le_of_lt q); have h7:(2:Rat)^(200:Int)*(2*rD^n)⁻¹*(2:Rat)^(-200:Int)=(2*rD^n)⁻¹:=by
    rw[Rat.mul_comm ((2:Rat)^(200:Int)),Rat.mul_assoc,c1,Rat.mul_one]
   rw[h7]at h3
   grind
  ·have e:=Rat.mul_inv_cancel (mD^n/2) (by grind); have p:=Rat.inv_pos.2 m0; have ex:(mD^n/2)⁻¹=2*(2:Rat)^(((30*n:Nat):Int)):=by
    have c:=p2_cancel ((30*n:Nat):Int)
    rw[mD_pow]at e ⊢
    generalize (2:Rat)^(-((30*n:Nat):Int))=A at *
    generalize (2:Rat)^(((30*n:Nat):Int))=C at *
    generalize (A/2)⁻¹=B' at *
    have:B'=B'*(C*A):=by rw[c,Rat.mul_one]
    rw[this]
    have:B'*(C*A)=C*2*(A/2*B'):=by grind
    rw[this,e]
    grind
   rw[ex]
   have h1:=p2_le (show (((30*n:Nat):Int))≤270 by omega); have h2:=p2_le (show (270+16:Int)≤299 by decide)
   rw[p2_add,show (2:Rat)^(16:Int)=65536 by rw[show (16:Int)=((16:Nat):Int) by rfl,p2_nat];rfl]at h2
   grind
theorem doublet_core (h:ElD 3 a1 a2 s1 s2 p X Y S T) (g:Seen a1 a2 z1 z2 d1 d2 D z) (gm:Ng D mD) (nr:Nm D rD) {n:Nat} {f:Nat} (h1:1≤n) (hn:n≤8) (hf:Is f ((-(n:Int):Int):Rat)):
  ∃ x y V,IsZ x y V∧Rl V (gz (S*-(n:Int)) (T*-(n:Int))*D.inv.pw (n+1)) (100*eps)∧∀(R:Type) (er:Int→Option R) (k:Nat→Nat→Option R),
   valP (checkB placeK withinK noughtK wholeK) placeK noughtK subK 3 p (fun x=>x) a1 a2 s1 s2 z1 z2 er (fun _ _=>er 6) (fun d1 d2=>leafD divK sclK wpowK (some f) ((n+1:Nat):Int) s1 s2 d1 d2 (toldE FiniteK er k))=k x y:=by
 have ep:=eps_pos; have et:=eps_tiny; have hD0:=ng_ne gm mD_pos; have bs:∀{U:Int},U.natAbs≤1000→(U*-(n:Int)).natAbs≤8000:=fun{U} hU=>by
  rw[Int.natAbs_mul,Int.natAbs_neg,Int.natAbs_natCast]
  exact Nat.le_trans (Nat.mul_le_mul hU hn) (by decide)
 obtain⟨t1,t2,ht,hsc⟩:=sclK_int h.hs hf (Nat.lt_of_le_of_lt (bs h.bS) (by decide)) (Nat.lt_of_le_of_lt (bs h.bT) (by decide))
 obtain⟨w1,w2,W,iW,rW,hw⟩:=wpowK_rel g.hD gm nr rD_one mD_one rD_pow mD_ok (n:=n+1) (by omega)
 have gW:=rW.ng (ng_pw gm (n+1)) (by grind); have nW:=rW.nm (nm_pw nr (n+1)) (by grind); have hP:gz (S*-(n:Int)) (T*-(n:Int))≠Cp.zero→Ng (gz (S*-(n:Int)) (T*-(n:Int))) (1/10):=fun hz=>(gz_zero hz).mono (by grind) (by grind)
 have nP:Nm (gz (S*-(n:Int)) (T*-(n:Int))) 20000:=(gz_size (B:=8000) (bs h.bS) (bs h.bT)).mono (by rw[show ((8000:Nat):Rat)=8000 by norm_cast];grind)
 obtain⟨x,y,V,iV,rV,hd⟩:=divK_rel (isC_z ht) iW gW nW (by
  have:=p2_le (show (-299:Int)≤-(((30*(n+1):Nat):Int))+-1 by omega)
  rw[p2_add,← mD_pow,show (2:Rat)^(-1:Int)=1/2 by rw[Rat.zpow_neg];rw[show (2:Rat)^(1:Int)=2 by simp];grind]at this
  grind) (by
  have q1:=pow_le_pow (r:=rD) rD_one (show n+1≤10 by omega); have q2:=rD_pow; have q3:=p2_le (show (200:Int)≤300 by decide); have q4:=Rat.pow_pos (show 0<rD by have:=rD_one;grind) (n:=10); unfold big200 at q2; grind) (quo_sizes hP nP (show n+1≤9 by omega) gW nW)
 refine⟨x,y,V,iV,?_,fun R er k=>?_⟩
 ·have q:=(rW.inv (by grind) (nsq_pw hD0 (n+1))).1
  rw[inv_pw hD0]at q
  have t:=rV.trans ((Rl.refl (gz (S*-(n:Int)) (T*-(n:Int))) Rat.le_refl).mul q); refine t.mono ?_; have ee:=Rat.mul_le_mul_of_nonneg_right et (Rat.le_of_lt ep); grind
 ·rw[valP_leaf h g.hz g.bz g.hs g.hD hD0 (fun _=>rfl)]
  unfold leafD; simp only
  rw[hsc,hw,hd,told_fin' iV]
theorem source_core (h:ElD 2 a1 a2 s1 s2 p X Y S T) (g:Seen a1 a2 z1 z2 d1 d2 D z) (gm:Ng D mD) (nr:Nm D rD) {c1 c2:Nat} {C:Cp} (hc:∀(R:Type) (k:Nat→Nat→Option R),sclK R s1 s2 4594902181429758083 k=k c1 c2) (iC:IsZ c1 c2 C) (hP:C≠Cp.zero→Ng C (1/10)) (nP:Nm C 20000):
  ∃ x y V,IsZ x y V∧Rl V (C*D.inv.pw 1) (100*eps)∧∀(R:Type) (k:Nat→Nat→Int→Option R),spdK R 2 a1 a2 s1 s2 p z1 z2 k=k x y 0:=by
 have ep:=eps_pos; have hD0:=ng_ne gm mD_pos; have gW:Ng D (mD^1/2):=gm.mono (by have:=mD_pos;rw[show mD^1=mD by rw[Rat.pow_succ,Rat.pow_zero];grind];grind) (by have:=mD_pos;rw[show mD^1=mD by rw[Rat.pow_succ,Rat.pow_zero];grind];grind); have nW:Nm D (2*rD^1):=nr.mono (by have:=rD_one;rw[show rD^1=rD by rw[Rat.pow_succ,Rat.pow_zero];grind];grind)
 obtain⟨x,y,V,iV,rV,hd⟩:=divK_rel iC g.hD gm nr (by rw[mD_eq];exact p2_le (by decide)) (by
  have q1:=pow_le_pow (r:=rD) rD_one (show 1≤10 by omega)
  rw[show rD^1=rD by rw[Rat.pow_succ,Rat.pow_zero];grind]at q1
  have q2:=rD_pow; have q3:=p2_le (show (200:Int)≤300 by decide); have q4:=Rat.pow_pos (show 0<rD by have:=rD_one;grind) (n:=10); unfold big200 at q2; grind) (quo_sizes hP nP (n:=1) (by decide) gW nW)
 refine⟨x,y,V,iV,?_,fun R k=>?_⟩
 ·rw[Cp.pw_one]
  exact rV.mono (by grind)
 ·show vO1 a1 a2 s1 s2 p z1 z2 _ _=_; unfold vO1
  rw[valO_leaf h g.hz g.bz g.hs g.hD hD0 hc]
  rw[hd,told_fin' iV]
theorem corner_core (h:ElD 4 a1 a2 s1 s2 p X Y S T) (g:Seen a1 a2 z1 z2 d1 d2 D z) (gm:Ng D mD) (nr:Nm D rD) {n:Nat} {f:Nat} (hn:n≤3) (hf:Is f (((n+1:Nat):Int):Rat)) {pre:∀ R:Type,Option R→Option R} (hpre:∀(R:Type) (x:Option R),pre R x=x):
  ∃ x y V,IsZ x y V∧Rl V (gz (S*((n+1:Nat):Int)) (T*((n+1:Nat):Int))*D.pw n) (100*eps)∧∀(R:Type) (er:Int→Option R) (at0:Nat→Nat→Option R) (k:Nat→Nat→Option R),
   valP (checkB placeK withinK noughtK wholeK) placeK noughtK subK 4 p (pre R) a1 a2 s1 s2 z1 z2 er at0 (fun d1 d2=>leafC mulK sclK wpowK (some f) (n:Int) s1 s2 d1 d2 (toldE FiniteK er k))=k x y:=by
 have ep:=eps_pos; have et:=eps_tiny; have hD0:=ng_ne gm mD_pos; have bs:∀{U:Int},U.natAbs≤1000→(U*((n+1:Nat):Int)).natAbs≤8000:=fun{U} hU=>by
  rw[Int.natAbs_mul,Int.natAbs_natCast]
  exact Nat.le_trans (Nat.mul_le_mul hU (show n+1≤8 by omega)) (by decide)
 obtain⟨t1,t2,ht,hsc⟩:=sclK_int h.hs hf (Nat.lt_of_le_of_lt (bs h.bS) (by decide)) (Nat.lt_of_le_of_lt (bs h.bT) (by decide))
 obtain⟨w1,w2,W,iW,rW,hw⟩:=wpowK_rel g.hD gm nr rD_one mD_one rD_pow mD_ok (n:=n) (by omega)
 have gW:=rW.ng (ng_pw gm n) (by grind); have nW:=rW.nm (nm_pw nr n) (by grind); have nP:Nm (gz (S*((n+1:Nat):Int)) (T*((n+1:Nat):Int))) 20000:=(gz_size (B:=8000) (bs h.bS) (bs h.bT)).mono (by rw[show ((8000:Nat):Rat)=8000 by norm_cast];grind)
 obtain⟨x,y,V,iV,rV,hd⟩:=mulK_rel (isC_z ht) iW nP nW (by
  have q1:=pow_le_pow (r:=rD) rD_one (show n≤5 by omega); have q2:16*(20000*(2*rD^5))+1≤big200:=by rw[big200_eq];unfold rD;decide +kernel
  grind) (by
  by_cases hz:gz (S*((n+1:Nat):Int)) (T*((n+1:Nat):Int))=Cp.zero
  ·exact .inl hz
  ·refine .inr (.inr ⟨(gz_zero hz).mul gW,?_⟩)
   have:=tn_eps (q:=30*n) (by omega)
   rw[← mD_pow]at this
   have t0:=tn_pos; generalize mD^n=A at *
   clear hpre hw hsc rW bs h g; grind)
 refine⟨x,y,V,iV,?_,fun R er at0 k=>?_⟩
 ·have t:=rV.trans ((Rl.refl (gz (S*((n+1:Nat):Int)) (T*((n+1:Nat):Int))) Rat.le_refl).mul rW); refine t.mono ?_; have ee:=Rat.mul_le_mul_of_nonneg_right et (Rat.le_of_lt ep); grind
 ·rw[valP_leaf h g.hz g.bz g.hs g.hD hD0 (fun x=>hpre R x)]
  unfold leafC; simp only
  rw[hsc,hw,hd,told_fin' iV]
end
section
variable {a1 a2 s1 s2 p z1 z2 d1 d2:Nat} {X Y S T:Int} {D z:Cp}
theorem spd_3_1 (R:Type) (k:Nat→Nat→Int→Option R):spdK R 3 a1 a2 s1 s2 4607182418800017408 z1 z2 k=vD1_1 a1 a2 s1 s2 4607182418800017408 z1 z2 (fun e=>k 0 0 e) (fun x y=>k x y 0):=by kernel_rfl
theorem spd_3_2 (R:Type) (k:Nat→Nat→Int→Option R):spdK R 3 a1 a2 s1 s2 4611686018427387904 z1 z2 k=vD1_2 a1 a2 s1 s2 4611686018427387904 z1 z2 (fun e=>k 0 0 e) (fun x y=>k x y 0):=by kernel_rfl
theorem spd_3_3 (R:Type) (k:Nat→Nat→Int→Option R):spdK R 3 a1 a2 s1 s2 4613937818241073152 z1 z2 k=vD1_3 a1 a2 s1 s2 4613937818241073152 z1 z2 (fun e=>k 0 0 e) (fun x y=>k x y 0):=by kernel_rfl
theorem spd_3_4 (R:Type) (k:Nat→Nat→Int→Option R):spdK R 3 a1 a2 s1 s2 4616189618054758400 z1 z2 k=vD1_4 a1 a2 s1 s2 4616189618054758400 z1 z2 (fun e=>k 0 0 e) (fun x y=>k x y 0):=by kernel_rfl
theorem spd_3_5 (R:Type) (k:Nat→Nat→Int→Option R):spdK R 3 a1 a2 s1 s2 4617315517961601024 z1 z2 k=vD1_5 a1 a2 s1 s2 4617315517961601024 z1 z2 (fun e=>k 0 0 e) (fun x y=>k x y 0):=by kernel_rfl
theorem spd_3_6 (R:Type) (k:Nat→Nat→Int→Option R):spdK R 3 a1 a2 s1 s2 4618441417868443648 z1 z2 k=vD1_6 a1 a2 s1 s2 4618441417868443648 z1 z2 (fun e=>k 0 0 e) (fun x y=>k x y 0):=by kernel_rfl
theorem spd_3_7 (R:Type) (k:Nat→Nat→Int→Option R):spdK R 3 a1 a2 s1 s2 4619567317775286272 z1 z2 k=vD1_7 a1 a2 s1 s2 4619567317775286272 z1 z2 (fun e=>k 0 0 e) (fun x y=>k x y 0):=by kernel_rfl
theorem spd_3_8 (R:Type) (k:Nat→Nat→Int→Option R):spdK R 3 a1 a2 s1 s2 4620693217682128896 z1 z2 k=vD1_8 a1 a2 s1 s2 4620693217682128896 z1 z2 (fun e=>k 0 0 e) (fun x y=>k x y 0):=by kernel_rfl
theorem spd_4_1 (R:Type) (k:Nat→Nat→Int→Option R):spdK R 4 a1 a2 s1 s2 4607182418800017408 z1 z2 k=vC1_1 a1 a2 s1 s2 4607182418800017408 z1 z2 (fun e=>k 0 0 e) (fun x y=>k x y 0):=by kernel_rfl
theorem spd_4_2 (R:Type) (k:Nat→Nat→Int→Option R):spdK R 4 a1 a2 s1 s2 4611686018427387904 z1 z2 k=vC1_2 a1 a2 s1 s2 4611686018427387904 z1 z2 (fun e=>k 0 0 e) (fun x y=>k x y 0):=by kernel_rfl
theorem spd_4_3 (R:Type) (k:Nat→Nat→Int→Option R):spdK R 4 a1 a2 s1 s2 4613937818241073152 z1 z2 k=vC1_3 a1 a2 s1 s2 4613937818241073152 z1 z2 (fun e=>k 0 0 e) (fun x y=>k x y 0):=by kernel_rfl
theorem spd_4_4 (R:Type) (k:Nat→Nat→Int→Option R):spdK R 4 a1 a2 s1 s2 4616189618054758400 z1 z2 k=vC1_4 a1 a2 s1 s2 4616189618054758400 z1 z2 (fun e=>k 0 0 e) (fun x y=>k x y 0):=by kernel_rfl
def wrd:Nat→Nat|1=>4607182418800017408|2=>4611686018427387904|3=>4613937818241073152|4=>4616189618054758400|5=>4617315517961601024|6=>4618441417868443648|7=>4619567317775286272|8=>4620693217682128896|_=>0
theorem spd_doublet {n:Nat} (h1:1≤n) (h8:n≤8) (h:ElD 3 a1 a2 s1 s2 (wrd n) X Y S T) (g:Seen a1 a2 z1 z2 d1 d2 D z) (gm:Ng D mD) (nr:Nm D rD):
  ∃ x y V,IsZ x y V∧Rl V (gz (S*-(n:Int)) (T*-(n:Int))*D.inv.pw (n+1)) (100*eps)∧∀(R:Type) (k:Nat→Nat→Int→Option R),spdK R 3 a1 a2 s1 s2 (wrd n) z1 z2 k=k x y 0:=by
 have use:∀{f:Nat},Is f ((-(n:Int):Int):Rat)→(∀(R:Type) (k:Nat→Nat→Int→Option R),spdK R 3 a1 a2 s1 s2 (wrd n) z1 z2 k=valP (checkB placeK withinK noughtK wholeK) placeK noughtK subK 3 (wrd n) (fun x=>x) a1 a2 s1 s2 z1 z2 (fun e=>k 0 0 e) (fun _ _=>k 0 0 6) (fun d1 d2=>leafD divK sclK wpowK (some f) ((n+1:Nat):Int) s1 s2 d1 d2 (toldE FiniteK (fun e=>k 0 0 e) fun x y=>k x y 0)))→
   ∃ x y V,IsZ x y V∧Rl V (gz (S*-(n:Int)) (T*-(n:Int))*D.inv.pw (n+1)) (100*eps)∧∀(R:Type) (k:Nat→Nat→Int→Option R),spdK R 3 a1 a2 s1 s2 (wrd n) z1 z2 k=k x y 0:=fun{f} hf he=>by
  obtain⟨x,y,V,g1,g2,g3⟩:=doublet_core h g gm nr h1 h8 hf
  exact⟨x,y,V,g1,g2,fun R k=>(he R k).trans (g3 R (fun e=>k 0 0 e) fun x y=>k x y 0)⟩
 rcases(by omega:n=1∨n=2∨n=3∨n=4∨n=5∨n=6∨n=7∨n=8) with rfl|rfl|rfl|rfl|rfl|rfl|rfl|rfl
 ·exact use (f:=13830554455654793216) (lit_isI (by decide) (by decide)) fun R k=>spd_3_1 R k
 ·exact use (f:=13835058055282163712) (lit_isI (by decide) (by decide)) fun R k=>spd_3_2 R k
 ·exact use (f:=13837309855095848960) (lit_isI (by decide) (by decide)) fun R k=>spd_3_3 R k
 ·exact use (f:=13839561654909534208) (lit_isI (by decide) (by decide)) fun R k=>spd_3_4 R k
 ·exact use (f:=13840687554816376832) (lit_isI (by decide) (by decide)) fun R k=>spd_3_5 R k
 ·exact use (f:=13841813454723219456) (lit_isI (by decide) (by decide)) fun R k=>spd_3_6 R k
 ·exact use (f:=13842939354630062080) (lit_isI (by decide) (by decide)) fun R k=>spd_3_7 R k
 ·exact use (f:=13844065254536904704) (lit_isI (by decide) (by decide)) fun R k=>spd_3_8 R k
theorem wy_ok (n:Nat) (h1:1≤n) (h4:n≤4) (R:Type) (x:Option R):wyK R (wrd n) x=x:=by
 have e:∀{w:Nat} {N:Int},Is w N→eqF (wholeW w) w=true→wyK R w x=x:=fun{w N} hw he=>by
  unfold wyK
  rw[wholeK_eq hw,he]
 rcases(by omega:n=1∨n=2∨n=3∨n=4) with rfl|rfl|rfl|rfl
 ·exact e l1 (by decide)
 ·exact e l2 (by decide)
 ·exact e l3 (by decide)
 ·exact e l4 (by decide)
theorem spd_corner {n:Nat} (h1:1≤n) (h4:n≤4) (h:ElD 4 a1 a2 s1 s2 (wrd n) X Y S T) (g:Seen a1 a2 z1 z2 d1 d2 D z) (gm:Ng D mD) (nr:Nm D rD):
  ∃ x y V,IsZ x y V∧Rl V (gz (S*(n:Int)) (T*(n:Int))*D.pw (n-1)) (100*eps)∧∀(R:Type) (k:Nat→Nat→Int→Option R),spdK R 4 a1 a2 s1 s2 (wrd n) z1 z2 k=k x y 0:=by
 have use:∀{m:Nat},n=m+1→m≤3→Is (wrd n) (((m+1:Nat):Int):Rat)→(∀(R:Type) (k:Nat→Nat→Int→Option R),∃ at0,spdK R 4 a1 a2 s1 s2 (wrd n) z1 z2 k=valP (checkB placeK withinK noughtK wholeK) placeK noughtK subK 4 (wrd n) (wyK R (wrd n)) a1 a2 s1 s2 z1 z2 (fun e=>k 0 0 e) at0 (fun d1 d2=>leafC mulK sclK wpowK (some (wrd n)) (m:Int) s1 s2 d1 d2 (toldE FiniteK (fun e=>k 0 0 e) fun x y=>k x y 0)))→
   ∃ x y V,IsZ x y V∧Rl V (gz (S*(n:Int)) (T*(n:Int))*D.pw (n-1)) (100*eps)∧∀(R:Type) (k:Nat→Nat→Int→Option R),spdK R 4 a1 a2 s1 s2 (wrd n) z1 z2 k=k x y 0:=fun{m} hm h3 hf he=>by
  obtain⟨x,y,V,g1,g2,g3⟩:=corner_core h g gm nr h3 hf (pre:=fun R=>wyK R (wrd n)) (fun R x=>wy_ok n h1 h4 R x)
  subst hm
  refine⟨x,y,V,g1,g2,fun R k=>?_⟩
  obtain⟨at0,q⟩:=he R k
  exact q.trans (g3 R (fun e=>k 0 0 e) at0 fun x y=>k x y 0)
 rcases(by omega:n=1∨n=2∨n=3∨n=4) with rfl|rfl|rfl|rfl
 ·exact use (m:=0) rfl (by decide) l1 fun R k=>⟨_,spd_4_1 R k⟩
 ·exact use (m:=1) rfl (by decide) l2 fun R k=>⟨_,spd_4_2 R k⟩
 ·exact use (m:=2) rfl (by decide) l3 fun R k=>⟨_,spd_4_3 R k⟩
 ·exact use (m:=3) rfl (by decide) l4 fun R k=>⟨_,spd_4_4 R k⟩
end
end Go.Vx
