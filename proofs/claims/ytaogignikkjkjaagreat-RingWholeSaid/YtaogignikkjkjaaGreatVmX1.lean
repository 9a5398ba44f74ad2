/- A part of the evaluator and of what is told of floats; no conditions. -/
import Derived.Test.YtaogignikkjkjaaGreatVmX0
import Derived.Test.YtaogignikkjkjaaGreatVmP26
set_option linter.unusedSimpArgs false
set_option linter.unusedVariables false
set_option maxRecDepth 1000000
set_option linter.unusedSectionVars false
namespace Go.Vx
open Go.Vm
def csm (f:Nat→Cp):Nat→Cp
 |0=>Cp.zero
 |n+1=>csm f n+f n
theorem csm_congr {f g:Nat→Cp}:∀{n:Nat},(∀ k,k<n→f k=g k)→csm f n=csm g n
 |0,_=>rfl
 |n+1,h=>by simp only[csm];rw[csm_congr (n:=n) fun k hk=>h k (by omega),h n (by omega)]
theorem csm_add (f g:Nat→Cp):∀ n,csm (fun k=>f k+g k) n=csm f n+csm g n
 |0=>by simp only[csm];rw[Cp.zero_add]
 |n+1=>by
  simp only[csm]
  rw[csm_add f g n]
  exact Cp.ext' (by simp only[Cp.add_re];grind) (by simp only[Cp.add_im];grind)
theorem csm_mul (a:Cp) (f:Nat→Cp):∀ n,csm (fun k=>a*f k) n=a*csm f n
 |0=>by simp only[csm];rw[Cp.mul_zero]
 |n+1=>by simp only[csm];rw[csm_mul a f n,Cp.mul_add]
theorem csm_sub (f g:Nat→Cp):∀ n,csm (fun k=>f k-g k) n=csm f n-csm g n
 |0=>by simp only[csm];rw[Cp.sub_self]
 |n+1=>by
  simp only[csm]
  rw[csm_sub f g n]
  exact Cp.ext' (by simp only[Cp.add_re,Cp.sub_re];grind) (by simp only[Cp.add_im,Cp.sub_im];grind)
theorem csm_one:∀ n:Nat,csm (fun _=>Cp.one) n=Cp.of (n:Rat)
 |0=>rfl
 |n+1=>by
  simp only[csm]
  rw[csm_one n]
  push_cast; exact Cp.ext' (by simp only[Cp.add_re,Cp.of_re,Cp.one_re]) (by simp only[Cp.add_im,Cp.of_im,Cp.one_im];grind)
theorem nm_csm {f:Nat→Cp} {r:Rat}:∀{n:Nat},(∀ k,k<n→Nm (f k) r)→Nm (csm f n) ((n:Rat)*r)
 |0,_=>by have:=nm_zero;simpa[csm] using this
 |n+1,h=>by
  have h1:=(nm_csm (n:=n) fun k hk=>h k (by omega)).add (h n (by omega)); simp only[csm]; refine h1.mono ?_; push_cast; grind
inductive Fc where
 |geo (b:Cp) (q:Rat)
 |lin (a:Cp) (q:Rat)
def Fc.at (f:Fc) (x:Cp):Cp:=match f with
 |.geo b _=>(Cp.one-b*x).inv
 |.lin a _=>x-a
def Fc.w (f:Fc):Rat:=match f with
 |.geo _ q=>(1-q)⁻¹
 |.lin _ q=>1+q
def Fc.cnt (f:Fc):Nat:=match f with
 |.geo _ _=>2
 |.lin _ _=>1
def Fc.kap (f:Fc):Rat:=match f with
 |.geo _ _=>9/4
 |.lin _ _=>3/2
def Fc.Ok (ρ:Rat) (f:Fc):Prop:=match f with
 |.geo b q=>∃ r,Nm b r∧r*ρ≤q∧q≤21/40
 |.lin a q=>∃ r,Nm a r∧r+(ρ-1)≤q
def prodF:List Fc→Cp→Cp
 |[],_=>Cp.one
 |f::L,x=>f.at x*prodF L x
def wL:List Fc→Rat
 |[]=>1
 |f::L=>f.w*wL L
def cntL:List Fc→Nat
 |[]=>0
 |f::L=>f.cnt+cntL L
def kapL:List Fc→Rat
 |[]=>1
 |f::L=>f.kap*kapL L
def OkL (ρ:Rat) (L:List Fc):Prop:=∀ f∈L,f.Ok ρ
theorem okL_cons {ρ:Rat} {f:Fc} {L:List Fc} (h:OkL ρ (f::L)):f.Ok ρ∧OkL ρ L:=⟨h f (by simp),fun g hg=>h g (by simp[hg])⟩
section
variable {ρ:Rat} (hρ:1≤ρ)
include hρ
theorem geo_bd {b x:Cp} {q:Rat} (h:(Fc.geo b q).Ok ρ) (hx:Nm x ρ):0≤q∧(Cp.one-b*x).nsq≠0∧Nm ((Cp.one-b*x).inv) ((1-q)⁻¹)∧0<1-q∧Nm b q:=by
 obtain⟨r,h1,h2,h3⟩:=h
 have r0:=h1.1; have q0:0≤q:=Rat.le_trans (Rat.mul_nonneg r0 hx.1) h2; have n1:=(h1.mul hx).mono h2; have g1:Ng (Cp.one+-(b*x)) (1-q):=ng_sub (r:=1) ⟨by decide,by unfold Cp.nsq;simp only[Cp.one_re,Cp.one_im];grind⟩ n1.neg (by grind)
 rw[← Cp.sub_eq]at g1
 have p0:0<1-q:=by grind
 have p1:=Rat.mul_pos p0 p0; have hn:(Cp.one-b*x).nsq≠0:=fun e=>by have:=g1.2;rw[e]at this;grind
 refine⟨q0,hn,⟨Rat.le_of_lt (Rat.inv_pos.2 p0),?_⟩,p0,h1.mono ?_⟩
 ·have e:=congrArg Cp.nsq (Cp.inv_mul hn)
  rw[Cp.nsq_mul,show Cp.one.nsq=1 by unfold Cp.nsq;simp only[Cp.one_re,Cp.one_im];grind]at e
  have i0:=Cp.nsq_nonneg ((Cp.one-b*x).inv); have e2:=Rat.mul_inv_cancel (1-q) (by grind); have g2:=g1.2; generalize (Cp.one-b*x).nsq=A at *
  generalize ((Cp.one-b*x).inv).nsq=B at *
  generalize (1-q)⁻¹=C at *
  generalize 1-q=D at *
  have k1:=Rat.mul_le_mul_of_nonneg_right g2 i0
  rw[e]at k1
  have k2:=Rat.mul_le_mul_of_nonneg_left k1 (sq_nonneg C)
  have:C*C*(D*D*B)=B:=by
   have:C*C*(D*D*B)=(D*C)*(D*C)*B:=by grind
   rw[this,e2];grind
  grind
 ·have:=Rat.mul_le_mul_of_nonneg_left hρ r0
  grind
theorem geo_step {b x:Cp} {q:Rat} (h:(Fc.geo b q).Ok ρ) (hx:Nm x ρ):(Fc.geo b q).at x=Cp.one+b*(x*(Fc.geo b q).at x):=by
 have e:=Cp.inv_mul (geo_bd hρ h hx).2.1; show (Cp.one-b*x).inv=Cp.one+b*(x*(Cp.one-b*x).inv); generalize (Cp.one-b*x).inv=u at *
 rw[← e,Cp.sub_mul,Cp.one_mul,Cp.mul_assoc]
 exact Cp.ext' (by simp only[Cp.add_re,Cp.sub_re];grind) (by simp only[Cp.add_im,Cp.sub_im];grind)
theorem fc_sup {f:Fc} {x:Cp} (h:f.Ok ρ) (hx:Nm x ρ):Nm (f.at x) f.w∧1≤f.w:=by
 cases f with
 |geo b q=>
  obtain⟨h1,h2,h3,h4,h5⟩:=geo_bd hρ h hx
  refine⟨h3,?_⟩
  have e:=Rat.mul_inv_cancel (1-q) (by grind)
  have:=Rat.mul_le_mul_of_nonneg_right (show 1-q≤1 by grind) h3.1
  show 1≤(1-q)⁻¹; grind
 |lin a q=>
  obtain⟨r,h1,h2⟩:=h
  have:=h1.1
  exact⟨(hx.sub h1).mono (show ρ+r≤1+q by grind),show 1≤1+q by grind⟩
theorem prod_sup {L:List Fc} {x:Cp} (h:OkL ρ L) (hx:Nm x ρ):Nm (prodF L x) (wL L)∧1≤wL L:=by
 induction L with
 |nil=>exact⟨nm_one,Rat.le_refl⟩
 |cons f L ih=>
  obtain⟨h1,h2⟩:=okL_cons h
  obtain⟨i1,i2⟩:=ih h2
  obtain⟨f1,f2⟩:=fc_sup hρ h1 hx
  refine⟨f1.mul i1,?_⟩
  have:=mul_mono' f2 i2 (by decide) (Rat.le_trans (by decide) f2)
  show 1≤f.w*wL L; grind
end
def th (m:Nat):Rat:=(3/2)^m/(3/2)^128
theorem th_succ (m:Nat):th (m+1)=3/2*th m:=by unfold th;rw[Rat.pow_succ,Rat.div_def,Rat.div_def];grind
theorem th_nonneg (m:Nat):0≤th m:=by
 unfold th
 rw[Rat.div_def]
 exact Rat.mul_nonneg (Rat.pow_nonneg (by grind)) (Rat.le_of_lt (Rat.inv_pos.2 (Rat.pow_pos (by grind))))
theorem th_128:th 128=1:=by decide +kernel
theorem th_ge:∀ j,th (128+j)=(3/2)^j
 |0=>by rw[Nat.add_zero,th_128,Rat.pow_zero]
 |j+1=>by rw[← Nat.add_assoc,th_succ,th_ge j,Rat.pow_succ];grind
theorem kap_pos (L:List Fc):1≤kapL L:=by
 induction L with
 |nil=>exact Rat.le_refl
 |cons f L ih=>
  have hf:1≤f.kap:=by cases f<;>(unfold Fc.kap;simp only;grind)
  have:=mul_mono' hf ih (by decide) (Rat.le_trans (by decide) hf)
  show 1≤f.kap*kapL L; grind
theorem pow_mono {a b:Rat} (h0:0≤a) (h:a≤b):∀ n:Nat,a^n≤b^n
 |0=>by rw[Rat.pow_zero,Rat.pow_zero];exact Rat.le_refl
 |n+1=>by
  rw[Rat.pow_succ,Rat.pow_succ]
  exact mul_mono' (pow_mono h0 h n) h h0 (Rat.pow_nonneg (Rat.le_trans h0 h))
theorem pow_add (a:Rat) (m:Nat):∀ n:Nat,a^(m+n)=a^m*a^n
 |0=>by rw[Nat.add_zero,Rat.pow_zero,Rat.mul_one]
 |n+1=>by rw[← Nat.add_assoc,Rat.pow_succ,pow_add a m n,Rat.pow_succ];grind
structure Pts (ρ σ:Rat) (n:Nat) (x:Nat→Cp):Prop where
 one:1≤ρ
 half:ρ≤3/2
 big:ρ^128≤2
 sig:0≤σ
 at_:∀ k,k<n→Nm (x k) ρ
 sum:∀ m,1≤m→m≤127→Nm (csm (fun k=>(x k).pw m) n) ((n:Rat)*(σ*(m:Rat)))
def eL (σ:Rat) (m:Nat) (L:List Fc):Rat:=σ*((m+cntL L:Nat):Rat)+2*kapL L*th m
section
variable {ρ σ:Rat} {n:Nat} {x:Nat→Cp} (hx:Pts ρ σ n x)
include hx
theorem pw_sup {m:Nat} (hm:128≤m) {k:Nat} (hk:k<n):Nm ((x k).pw m) (2*th m):=by
 refine(nm_pw (hx.at_ k hk) m).mono ?_
 obtain⟨j,rfl⟩:∃ j,m=128+j:=⟨m-128,by omega⟩
 rw[th_ge,pow_add]
 exact mul_mono' hx.big (pow_mono (Rat.le_trans (by decide) hx.one) hx.half j) (Rat.pow_nonneg (Rat.le_trans (by decide) hx.one)) (by decide)
theorem far_sum {L:List Fc} (hL:OkL ρ L) {m:Nat} (hm:128≤m):Nm (csm (fun k=>(x k).pw m*prodF L (x k)) n) ((n:Rat)*(wL L*eL σ m L)):=by
 refine nm_csm fun k hk=>?_
 obtain⟨p1,p2⟩:=prod_sup hx.one hL (hx.at_ k hk)
 refine((pw_sup hx hm hk).mul p1).mono ?_
 unfold eL; have t0:=th_nonneg m; have k1:=kap_pos L; have s0:0≤σ*((m+cntL L:Nat):Rat):=Rat.mul_nonneg hx.sig (by exact_mod_cast Nat.zero_le _); have q1:=Rat.mul_le_mul_of_nonneg_right k1 t0; have q2:=Rat.mul_le_mul_of_nonneg_left (show 2*th m≤σ*((m+cntL L:Nat):Rat)+2*kapL L*th m by grind) (Rat.le_trans (by decide) p2); grind
theorem geo_mix {b:Cp} {q:Rat} {L:List Fc} (h:OkL ρ (.geo b q::L)) (hn:0<n):∃ r,Nm b r∧0≤r∧r≤q∧q≤21/40∧wL L=(1-q)*wL (.geo b q::L)∧1≤wL L∧0<1-q:=by
 obtain⟨h1,h2⟩:=okL_cons h
 obtain⟨g1,g2,g3,g4,g5⟩:=geo_bd hx.one h1 (hx.at_ 0 hn)
 obtain⟨r,r1,r2,r3⟩:=h1
 have e:=Rat.mul_inv_cancel (1-q) (by grind)
 refine⟨r,r1,r1.1,?_,r3,?_,(prod_sup hx.one h2 (hx.at_ 0 hn)).2,g4⟩
 ·have:=Rat.mul_le_mul_of_nonneg_left hx.one r1.1
  grind
 ·show wL L=(1-q)*((1-q)⁻¹*wL L)
  rw[← Rat.mul_assoc,e,Rat.one_mul]
theorem prod_sum (hn:0<n):∀(L:List Fc),OkL ρ L→∀ m,1≤m→Nm (csm (fun k=>(x k).pw m*prodF L (x k)) n) ((n:Rat)*(wL L*eL σ m L)):=by
 have n0:(0:Rat)≤(n:Rat):=by exact_mod_cast Nat.zero_le n
 intro L; induction L with
 |nil=>
  intro hL m h1; rcases Nat.lt_or_ge m 128 with hm|hm
  ·have e:csm (fun k=>(x k).pw m*prodF [] (x k)) n=csm (fun k=>(x k).pw m) n:=csm_congr fun k _=>by show (x k).pw m*Cp.one=_;rw[Cp.mul_one]
   rw[e]
   refine(hx.sum m h1 (by omega)).mono (Rat.mul_le_mul_of_nonneg_left ?_ n0)
   unfold eL wL kapL cntL
   rw[Nat.add_zero]
   have:=th_nonneg m
   grind
  ·exact far_sum hx hL hm
 |cons f L ih=>
  intro hL
  obtain⟨h1,h2⟩:=okL_cons hL
  have ih:=ih h2; cases f with
  |lin a q=>
   intro m hm
   obtain⟨r,r1,r2⟩:=h1
   have w1:=(prod_sup hx.one h2 (hx.at_ 0 hn)).2; have e:csm (fun k=>(x k).pw m*prodF (.lin a q::L) (x k)) n=csm (fun k=>(x k).pw (m+1)*prodF L (x k)) n-a*csm (fun k=>(x k).pw m*prodF L (x k)) n:=by
    rw[← csm_mul,← csm_sub]
    refine csm_congr fun k _=>?_
    show (x k).pw m*((x k-a)*prodF L (x k))=(x k).pw m*x k*prodF L (x k)-a*((x k).pw m*prodF L (x k))
    rw[Cp.sub_mul,Cp.mul_sub,Cp.mul_assoc,Cp.mul_left_comm ((x k).pw m) a]
   rw[e]
   refine((ih (m+1) (by omega)).sub (r1.mul (ih m hm))).mono ?_
   unfold eL; show _≤(n:Rat)*((1+q)*wL L*(σ*((m+(1+cntL L):Nat):Rat)+2*(3/2*kapL L)*th m))
   rw[th_succ]
   have k1:=kap_pos L; have t0:=th_nonneg m; have hρ:=hx.one; have hr:r≤q:=by grind
   have s1:=Rat.mul_nonneg hx.sig (show (0:Rat)≤((m+cntL L:Nat):Rat) by exact_mod_cast Nat.zero_le _); have c1:((m+1+cntL L:Nat):Rat)=((m+cntL L:Nat):Rat)+1:=by push_cast;grind
   have c2:((m+(1+cntL L):Nat):Rat)=((m+cntL L:Nat):Rat)+1:=by push_cast;grind
   rw[c1,c2]
   have s0:=hx.sig; have kt:=Rat.mul_nonneg (Rat.le_trans (by decide) k1) t0; have w0:0≤wL L:=Rat.le_trans (by decide) w1; generalize ((m+cntL L:Nat):Rat)=c at *
   generalize kapL L=kk at *
   have a1:=Rat.mul_le_mul_of_nonneg_right hr (Rat.mul_nonneg n0 (Rat.mul_nonneg w0 (show 0≤σ*(c+1)+2*kk*(3/2*th m) by grind))); have a2:=Rat.mul_nonneg r1.1 (Rat.mul_nonneg n0 (Rat.mul_nonneg w0 (show 0≤σ*(c+1)+2*kk*(3/2*th m)-(σ*c+2*kk*th m) by grind))); grind
  |geo b q=>
   obtain⟨r,r1,r0,r2,r3,w1,w2,q1⟩:=geo_mix hx hL hn
   suffices key:∀ j m,1≤m→128≤m+j→Nm (csm (fun k=>(x k).pw m*prodF (.geo b q::L) (x k)) n) ((n:Rat)*(wL (.geo b q::L)*eL σ m (.geo b q::L))) from fun m hm=>key 128 m hm (by omega)
   intro j; induction j with
   |zero=>exact fun m _ hj=>far_sum hx hL (by omega)
   |succ j jh=>
    intro m hm hj; have e:csm (fun k=>(x k).pw m*prodF (.geo b q::L) (x k)) n=csm (fun k=>(x k).pw m*prodF L (x k)) n+b*csm (fun k=>(x k).pw (m+1)*prodF (.geo b q::L) (x k)) n:=by
     rw[← csm_mul,← csm_add]
     refine csm_congr fun k hk=>?_
     show (x k).pw m*((Fc.geo b q).at (x k)*prodF L (x k))=(x k).pw m*prodF L (x k)+b*((x k).pw m*x k*((Fc.geo b q).at (x k)*prodF L (x k))); have g:=geo_step hx.one h1 (hx.at_ k hk); generalize (Fc.geo b q).at (x k)=u at *
     have:u*prodF L (x k)=prodF L (x k)+b*(x k*(u*prodF L (x k))):=by
      rw[← Cp.mul_assoc (x k),← Cp.mul_assoc b]
      conv=>lhs;rw[g]
      rw[Cp.add_mul,Cp.one_mul]
     rw[Cp.mul_assoc ((x k).pw m) (x k),Cp.mul_left_comm b,← Cp.mul_add,← this]
    rw[e]
    refine((ih m hm).add (r1.mul (jh (m+1) (by omega) (by omega)))).mono ?_
    rw[w1]
    unfold eL; have W0:0≤wL (.geo b q::L):=by
     have:=(prod_sup hx.one hL (hx.at_ 0 hn)).2
     grind
    show (n:Rat)*((1-q)*wL (.geo b q::L)*(σ*((m+cntL L:Nat):Rat)+2*kapL L*th m))+r*((n:Rat)*(wL (.geo b q::L)*(σ*((m+1+(2+cntL L):Nat):Rat)+2*(9/4*kapL L)*th (m+1))))≤(n:Rat)*(wL (.geo b q::L)*(σ*((m+(2+cntL L):Nat):Rat)+2*(9/4*kapL L)*th m))
    rw[th_succ]
    have c1:((m+1+(2+cntL L):Nat):Rat)=((m+cntL L:Nat):Rat)+3:=by push_cast;grind
    have c2:((m+(2+cntL L):Nat):Rat)=((m+cntL L:Nat):Rat)+2:=by push_cast;grind
    rw[c1,c2]
    have s0:=hx.sig; have k1:=kap_pos L; have t0:=th_nonneg m; have kt:=Rat.mul_nonneg (Rat.le_trans (by decide) k1) t0; have s1:=Rat.mul_nonneg hx.sig (show (0:Rat)≤((m+cntL L:Nat):Rat) by exact_mod_cast Nat.zero_le _); generalize wL (.geo b q::L)=W at *
    generalize ((m+cntL L:Nat):Rat)=c at *
    generalize kapL L=kk at *
    generalize th m=t at *
    have nW:=Rat.mul_nonneg n0 W0; have X0:0≤σ*(c+3)+2*(9/4*kk)*(3/2*t):=by grind
    have a1:=Rat.mul_le_mul_of_nonneg_right r2 (Rat.mul_nonneg nW X0); have b1:=Rat.mul_le_mul_of_nonneg_right r3 s0; have b2:=Rat.mul_le_mul_of_nonneg_right r3 kt; have fin:(1-q)*(σ*c+2*kk*t)+q*(σ*(c+3)+2*(9/4*kk)*(3/2*t))≤σ*(c+2)+2*(9/4*kk)*t:=by grind
    have a2:=Rat.mul_le_mul_of_nonneg_left fin nW; grind
end
theorem ng_pw {z:Cp} {m:Rat} (h:Ng z m):∀ n,Ng (z.pw n) (m^n)
 |0=>by rw[Rat.pow_zero];exact⟨by decide,by show 1*1≤Cp.one.nsq;unfold Cp.nsq;simp only[Cp.one_re,Cp.one_im];grind⟩
 |n+1=>by rw[Rat.pow_succ];exact(ng_pw h n).mul h
theorem ng_one {e:Cp} {δ:Rat} (h:Nm e δ) (hd:δ≤1):Ng (Cp.one+e) (1-δ):=
 ng_sub (r:=1) ⟨by decide,by unfold Cp.nsq;simp only[Cp.one_re,Cp.one_im];grind⟩ h hd
theorem Rl.ng {z Z:Cp} {δ m:Rat} (h:Rl z Z δ) (g:Ng Z m) (hd:δ≤1/2):Ng z (m/2):=by
 obtain⟨e,e1,rfl⟩:=h
 have:=(g.mul (ng_one e1 (by grind)))
 refine this.mono (by have:=g.1;grind) ?_
 have:=Rat.mul_le_mul_of_nonneg_left (show (1:Rat)/2≤1-δ by grind) g.1
 grind
theorem Rl.nm {z Z:Cp} {δ m:Rat} (h:Rl z Z δ) (g:Nm Z m) (hd:δ≤1):Nm z (2*m):=by
 obtain⟨e,e1,rfl⟩:=h
 have:=g.mul (nm_one.add e1)
 refine this.mono ?_
 have:=Rat.mul_le_mul_of_nonneg_left (show 1+δ≤2 by grind) g.1
 grind
theorem of_mul_nsq (f:Rat) (A:Cp):(Cp.of f*A).nsq=f*f*A.nsq:=by rw[Cp.nsq_mul];unfold Cp.nsq;simp only[Cp.of_re,Cp.of_im];grind
theorem sclK_rel {a b c:Nat} {A:Cp} {F:Rat} (hA:IsZ a b A) (hF:Is c F) {r m:Rat} (rA:Nm A r) (big:r*F.abs≤big200) (h0:A=Cp.zero∨(Ng (Cp.of F*A) m∧4*tn≤1/1000*eps*m)):
  ∃ p q P,IsZ p q P∧Rl P (Cp.of F*A) eps∧∀(R:Type) (k:Nat→Nat→Option R),sclK R a b c k=k p q:=by
 have ep:=eps_pos; have t0:=tn_pos
 obtain⟨a1,a2⟩:=size_of rA
 have bd:∀{u:Rat},u.abs≤r→u.abs*F.abs≤big200:=fun h=>Rat.le_trans (Rat.mul_le_mul_of_nonneg_right h (abs_nonneg F)) big
 obtain⟨x1,X1,f1,i1,e1,z1⟩:=fine_mul hA.1 hF (bd a1)
 obtain⟨x2,X2,f2,i2,e2,z2⟩:=fine_mul hA.2 hF (bd a2)
 refine⟨x1,x2,⟨X1,X2⟩,⟨i1,i2⟩,?_,fun R k=>by unfold sclK;rw[bindF_eq f1,bindF_eq f2]⟩
 rcases h0 with h0|⟨hm,htn⟩
 ·have q1:=z1 (.inl (by rw[h0];rfl)); have q2:=z2 (.inl (by rw[h0];rfl))
  rw[h0,Cp.mul_zero,show (⟨X1,X2⟩:Cp)=Cp.zero from Cp.ext' q1 q2]
  exact Rl.refl _ (Rat.le_of_lt ep)
 ·have mpos:0<m:=by
   refine Rat.not_le.1 fun hl=>?_
   have:=Rat.mul_nonneg (show (0:Rat)≤1/1000*eps by grind) (show 0≤-m by grind)
   grind
  refine rl_of_sq (Rat.le_of_lt ep) (ng_ne hm mpos) ?_
  have k:∀{X u:Rat},(X-u*F).abs≤eps/4*(u.abs*F.abs)+tn→u*u*(F*F)≤(Cp.of F*A).nsq→(X-u*F)*(X-u*F)≤26/100*(eps*eps)*(Cp.of F*A).nsq:=fun{X u} h hN=>by
   refine sq_part (X:=u.abs*F.abs) (m:=m) ?_ (Rat.mul_nonneg (abs_nonneg _) (abs_nonneg _)) hm.1 htn ?_ hm.2
   ·have:=Rat.mul_nonneg (Rat.le_of_lt ep) (Rat.mul_nonneg (abs_nonneg u) (abs_nonneg F))
    grind
   ·have e1:=abs_sq u; have e2:=abs_sq F
    have:u.abs*F.abs*(u.abs*F.abs)=u*u*(F*F):=by rw[← e1,← e2];grind
    grind
  have n1:=Rat.mul_nonneg (sq_nonneg A.re) (sq_nonneg F); have n2:=Rat.mul_nonneg (sq_nonneg A.im) (sq_nonneg F); have eN:=of_mul_nsq F A; have eA:A.nsq=A.re*A.re+A.im*A.im:=rfl; have k1:=k e1 (by rw[eN,eA];grind); have k2:=k e2 (by rw[eN,eA];grind); have en:((⟨X1,X2⟩:Cp)-Cp.of F*A).nsq=(X1-A.re*F)*(X1-A.re*F)+(X2-A.im*F)*(X2-A.im*F):=by
   unfold Cp.nsq; simp only[Cp.sub_re,Cp.sub_im,Cp.mul_re,Cp.mul_im,Cp.of_re,Cp.of_im]; grind
  rw[en]
  have:=Rat.mul_nonneg (Rat.mul_nonneg (Rat.le_of_lt ep) (Rat.le_of_lt ep)) (Cp.of F*A).nsq_nonneg
  grind
def cE (j:Nat):Rat:=(j:Rat)*(1001/1000*eps)
theorem eps_tiny:eps≤1/1000000000000000:=by rw[eps_eq];grind
theorem pow_step {a b c d:Nat} {A B D:Cp} {i j:Nat} (hi:1≤i) (hj:1≤j) (hij:i+j≤16) (hA:IsZ a b A) (hB:IsZ c d B) {m r:Rat} (hm:Ng D m) (hr:Nm D r) (big:64*(r^i*r^j)+1≤big200) (htn:16*tn≤1/1000*eps*m^(i+j)) (rA:Rl A (D.pw i) (cE (i-1))) (rB:Rl B (D.pw j) (cE (j-1))):
  ∃ p q P,IsZ p q P∧Rl P (D.pw (i+j)) (cE (i+j-1))∧∀(R:Type) (k:Nat→Nat→Option R),mulK R a b c d k=k p q:=by
 have ep:=eps_pos; have et:=eps_tiny; have ci:((i-1:Nat):Rat)≤16:=by exact_mod_cast (show i-1≤16 by omega)
 have cj:((j-1:Nat):Rat)≤16:=by exact_mod_cast (show j-1≤16 by omega)
 have ni:(0:Rat)≤((i-1:Nat):Rat):=by exact_mod_cast Nat.zero_le _
 have nj:(0:Rat)≤((j-1:Nat):Rat):=by exact_mod_cast Nat.zero_le _
 have e16:∀{x:Rat},0≤x→x≤16→x*(1001/1000*eps)≤1/10000000000000:=fun{x} h0 h=>by
  have:=Rat.mul_le_mul_of_nonneg_right h (show 0≤1001/1000*eps by grind)
  grind
 have ea:=e16 ni ci; have eb:=e16 nj cj; have nA:=rA.nm (nm_pw hr i) (by unfold cE;grind); have nB:=rB.nm (nm_pw hr j) (by unfold cE;grind); have gA:=rA.ng (ng_pw hm i) (by unfold cE;grind); have gB:=rB.ng (ng_pw hm j) (by unfold cE;grind); have gAB:=gA.mul gB
 obtain⟨p,q,P,i1,r1,run⟩:=mulK_rel hA hB nA nB (by grind) (.inr (.inr ⟨gAB,by rw[show m^i/2*(m^j/2)=m^(i+j)/4 by rw[pow_add];grind];grind⟩))
 refine⟨p,q,P,i1,?_,run⟩
 have t:=r1.trans (rA.mul rB)
 rw[← Cp.pw_add]at t
 refine t.mono ?_
 unfold cE; have c1:((i+j-1:Nat):Rat)=((i-1:Nat):Rat)+((j-1:Nat):Rat)+1:=by rw[show i+j-1=(i-1)+(j-1)+1 by omega];push_cast;grind
 rw[c1]
 generalize ((i-1:Nat):Rat)=x at *
 generalize ((j-1:Nat):Rat)=y at *
 have xy:=mul_mono' ci cj nj (show (0:Rat)≤16 by decide); have xy0:=Rat.mul_nonneg ni nj; have ee:=Rat.mul_le_mul_of_nonneg_right et (Rat.le_of_lt ep); have ee0:=Rat.mul_nonneg (Rat.le_of_lt ep) (Rat.le_of_lt ep); have m1:=Rat.mul_le_mul_of_nonneg_right xy ee0; have m2:=Rat.mul_le_mul_of_nonneg_right ci ee0; have m3:=Rat.mul_le_mul_of_nonneg_right cj ee0; have m4:=Rat.mul_le_mul_of_nonneg_right et ee0; have m5:=Rat.mul_le_mul_of_nonneg_right xy (Rat.mul_nonneg (Rat.le_of_lt ep) ee0); grind
def expo:List Bool→Nat→Nat
 |[],j=>j
 |t::ts,j=>expo ts (j+j+t.toNat)
theorem expo_ge:∀(l:List Bool) (j:Nat),j≤expo l j
 |[],j=>Nat.le_refl j
 |t::ts,j=>Nat.le_trans (by omega) (expo_ge ts (j+j+t.toNat))
theorem one_powQ:∀ n:Nat,(1:Rat)^n=1
 |0=>Rat.pow_zero _
 |n+1=>by rw[Rat.pow_succ,one_powQ n];grind
theorem wsteps_rel {a b:Nat} {D:Cp} (hD:IsZ a b D) {m r:Rat} (hm:Ng D m) (hr:Nm D r) (r1:1≤r) (m1:m≤1) {N:Nat} (hN:N≤16) (big:64*r^N+1≤big200) (htn:16*tn≤1/1000*eps*m^N):∀(l:List Bool) (j x y:Nat) (X:Cp),1≤j→expo l j≤N→IsZ x y X→Rl X (D.pw j) (cE (j-1))→
  ∃ p q P,IsZ p q P∧Rl P (D.pw (expo l j)) (cE (expo l j-1))∧∀(R:Type) (k:Nat→Nat→Option R),wsteps mulK a b l x y k=k p q:=by
 have ep:=eps_pos; have pm:∀{j:Nat},j≤N→m^N≤m^j:=fun{j} h=>by
  obtain⟨i,rfl⟩:∃ i,N=j+i:=⟨N-j,by omega⟩
  rw[pow_add]
  have a0:0≤m^j:=Rat.pow_nonneg hm.1; have a1:m^i≤1:=by
   have:=pow_mono hm.1 m1 i
   rwa [show (1:Rat)^i=1 from one_powQ i]at this
  have:=Rat.mul_le_mul_of_nonneg_left a1 a0
  grind
 have pr:∀{j:Nat},j≤N→r^j≤r^N:=fun{j} h=>by
  obtain⟨i,rfl⟩:∃ i,N=j+i:=⟨N-j,by omega⟩
  rw[pow_add]
  have a0:0≤r^j:=Rat.pow_nonneg hr.1; have a1:1≤r^i:=by
   have:=pow_mono (show (0:Rat)≤1 by decide) r1 i
   rwa [show (1:Rat)^i=1 from one_powQ i]at this
  have:=Rat.mul_le_mul_of_nonneg_left a1 a0
  grind
 have st:∀{i j:Nat},i+j≤N→64*(r^i*r^j)+1≤big200∧16*tn≤1/1000*eps*m^(i+j):=fun{i j} h=>by
  have h1:=pr h; have h2:=Rat.mul_le_mul_of_nonneg_left (pm h) (show 0≤1/1000*eps by grind)
  rw[pow_add]at h1
  exact⟨by grind,by grind⟩
 intro l; induction l with
 |nil=>exact fun j x y X h1 h2 h3 h4=>⟨x,y,X,h3,h4,fun R k=>rfl⟩
 |cons t ts ih=>
  intro j x y X h1 h2 h3 h4; have hx:=expo_ge ts (j+j+t.toNat); change expo ts (j+j+t.toNat)≤N at h2
  obtain⟨s1,s2⟩:=st (i:=j) (j:=j) (by omega)
  obtain⟨p,q,P,i1,rr,run⟩:=pow_step h1 h1 (by omega) h3 h3 hm hr s1 s2 h4 h4
  cases t with
  |false=>
   obtain⟨p',q',P',g1,g2,g3⟩:=ih (j+j+false.toNat) p q P (by omega) h2 i1 rr
   exact⟨p',q',P',g1,g2,fun R k=>by show mulK R x y x y _=_;rw[run];exact g3 R k⟩
  |true=>
   change j+j+1≤expo ts (j+j+1) at hx; change expo ts (j+j+1)≤N at h2
   obtain⟨u1,u2⟩:=st (i:=j+j) (j:=1) (by omega)
   obtain⟨p2,q2,P2,i2,rr2,run2⟩:=pow_step (i:=j+j) (j:=1) (by omega) (Nat.le_refl 1) (by omega) i1 hD hm hr u1 u2 rr (by rw[Cp.pw_one];exact Rl.refl D (by unfold cE;simp))
   obtain⟨p',q',P',g1,g2,g3⟩:=ih (j+j+true.toNat) p2 q2 P2 (by omega) h2 i2 rr2
   exact⟨p',q',P',g1,g2,fun R k=>by show mulK R x y x y _=_;rw[run];show mulK R p q a b _=_;rw[run2];exact g3 R k⟩
theorem wpowK_rel {a b:Nat} {D:Cp} (hD:IsZ a b D) {m r:Rat} (hm:Ng D m) (hr:Nm D r) (r1:1≤r) (m1:m≤1) (big:64*r^10+1≤big200) (htn:16*tn≤1/1000*eps*m^10) {n:Nat} (hn:n≤10):
  ∃ p q P,IsZ p q P∧Rl P (D.pw n) (11*eps)∧∀(R:Type) (k:Nat→Nat→Option R),wpowK R a b (n:Int) k=k p q:=by
 have ep:=eps_pos; have w:=wsteps_rel hD hm hr r1 m1 (N:=10) (by decide) big htn; have fin:∀{N:Nat} {P:Cp},1≤N→N≤10→Rl P (D.pw N) (cE (N-1))→Rl P (D.pw N) (11*eps):=fun{N P} h0 h1 h=>h.mono (by
  unfold cE
  have:((N-1:Nat):Rat)≤9:=by exact_mod_cast (show N-1≤9 by omega)
  have:=Rat.mul_le_mul_of_nonneg_right this (show 0≤1001/1000*eps by grind)
  grind)
 have r0:Rl D (D.pw 1) (cE (1-1)):=by rw[Cp.pw_one];exact Rl.refl D (by unfold cE;simp)
 have use:∀(l:List Bool) (N:Nat),expo l 1=N→1≤N→N≤10→∃ p q P,IsZ p q P∧Rl P (D.pw N) (11*eps)∧∀(R:Type) (k:Nat→Nat→Option R),wsteps mulK a b l a b k=k p q:=fun l N e h0 h1=>by
  obtain⟨p,q,P,g1,g2,g3⟩:=w l 1 a b D (Nat.le_refl 1) (by omega) hD r0
  rw[e]at g2
  exact⟨p,q,P,g1,fin h0 h1 g2,g3⟩
 rcases(by omega:n=0∨n=1∨n=2∨n=3∨n=4∨n=5∨n=6∨n=7∨n=8∨n=9∨n=10) with rfl|rfl|rfl|rfl|rfl|rfl|rfl|rfl|rfl|rfl|rfl
 ·exact⟨_,0,Cp.one,⟨is_one,is0⟩,Rl.refl _ (by grind),fun R k=>rfl⟩
 ·exact⟨a,b,D,hD,by rw[Cp.pw_one];exact Rl.refl _ (by grind),fun R k=>rfl⟩
 ·exact use (wbits 2) 2 rfl (by decide) (by decide)
 ·exact use (wbits 3) 3 rfl (by decide) (by decide)
 ·exact use (wbits 4) 4 rfl (by decide) (by decide)
 ·exact use (wbits 5) 5 rfl (by decide) (by decide)
 ·exact use (wbits 6) 6 rfl (by decide) (by decide)
 ·exact use (wbits 7) 7 rfl (by decide) (by decide)
 ·exact use (wbits 8) 8 rfl (by decide) (by decide)
 ·exact use (wbits 9) 9 rfl (by decide) (by decide)
 ·exact use (wbits 10) 10 rfl (by decide) (by decide)
structure ElD (kind:Int) (a1 a2 s1 s2 p:Nat) (X Y S T:Int):Prop where
 ha:IsC a1 a2 X Y
 hs:IsC s1 s2 S T
 bX:X.natAbs≤1000
 bY:Y.natAbs≤1000
 bS:S.natAbs≤1000
 bT:T.natAbs≤1000
 hp:p<2^64
 hv:checkV kind (decide (X=0∧Y=0)) p=0
theorem ElD.chk {kind:Int} {a1 a2 s1 s2 p:Nat} {X Y S T:Int} (h:ElD kind a1 a2 s1 s2 p X Y S T) {R:Type} (k:Int→Option R):checkB placeK withinK noughtK wholeK R kind a1 a2 s1 s2 p k=k 0:=by
 have c:∀{n:Int},n.natAbs≤1000→n.natAbs≤2^40:=fun h=>Nat.le_trans h (by decide)
 rw[check_eq h.ha h.hs (c h.bX) (c h.bY) (c h.bS) (c h.bT) h.hp,h.hv]
theorem withinK_is {a:Nat} {x:Rat} (h:Is a x) (hb:x.abs≤((2^40:Int):Rat)) {R:Type} (k:Bool→Option R):withinK R a 4787326403894837248 k=k true:=by
 rw[withinK_eq,leF_is (abs_is h) is_p40,decide_eq_true hb]
theorem p40_ge:(1000000:Rat)≤((2^40:Int):Rat):=by decide +kernel
theorem placeK_is {a b:Nat} {x y:Rat} (h:Is a x) (g:Is b y) (hx:x.abs≤1000000) (hy:y.abs≤1000000) {R:Type} (k:Bool→Option R):placeK R a b k=k true:=by
 have p:=p40_ge; unfold placeK placeB WithinK WithinB
 rw[withinK_is h (Rat.le_trans hx p),forceB_eq]
 simp only
 rw[withinK_is g (Rat.le_trans hy p),forceB_eq,forceB_eq]
theorem noughtK_no {a b:Nat} {z:Cp} (h:IsZ a b z) (hz:z.nsq≠0) {R:Type} (k:Bool→Option R):noughtK R a b k=k false:=by
 unfold noughtK
 rw[forceB_eq,eqF_is h.1 is0]
 by_cases h1:z.re=0
 ·rw[decide_eq_true h1]
  simp only
  rw[forceB_eq,eqF_is h.2 is0]
  have:¬ z.im=0:=fun h2=>hz (by unfold Cp.nsq;rw[h1,h2];grind)
  rw[decide_eq_false this]
 ·rw[decide_eq_false h1]
theorem told_fin' {R:Type} {x y:Nat} {z:Cp} (h:IsZ x y z) (er:Int→Option R) (k:Nat→Nat→Option R):toldE FiniteK er k x y=k x y:=by
 unfold toldE
 rw[FiniteK_yes h.1 h.2,forceB_eq]
def mD:Rat:=1/1073741824
def rD:Rat:=8192
theorem big200_eq:big200=1606938044258990275541962092341162602522202993782792835301376:=by
 unfold big200
 rw[show (200:Int)=((200:Nat):Int) by rfl,p2_nat]
 rfl
theorem tn_eps {q:Nat} (hq:q≤900):16*tn≤1/1000*eps*(2:Rat)^(-(q:Int)):=by
 have h1:tn=(2:Rat)^(-1023:Int)*eps:=by
  unfold tn eps
  rw[← p2_add]
  rfl
 have h2:=p2_le (show (-900:Int)≤-(q:Int) by omega); have h3:(2:Rat)^(-1023:Int)=(2:Rat)^(-900:Int)*(2:Rat)^(-123:Int):=by rw[← p2_add];rfl
 have h4:=p2_le (show (-123:Int)≤-20 by decide)
 rw[p20m]at h4
 have ep:=eps_pos; have p9:=p2_pos (-900)
 rw[h1,h3]
 have a1:=Rat.mul_le_mul_of_nonneg_left h4 (Rat.le_of_lt p9); have a2:=Rat.mul_le_mul_of_nonneg_right a1 (Rat.le_of_lt ep); have a3:=Rat.mul_le_mul_of_nonneg_right h2 (Rat.le_of_lt ep); grind
theorem mD_eq:mD=(2:Rat)^(-30:Int):=by
 have h:=p2_cancel 30; have e:(2:Rat)^(30:Int)=1073741824:=by rw[show (30:Int)=((30:Nat):Int) by rfl,p2_nat];rfl
 rw[e]at h
 unfold mD; grind
theorem p2_pow (q:Int):∀ n:Nat,((2:Rat)^q)^n=(2:Rat)^(q*(n:Int))
 |0=>by rw[Rat.pow_zero,show q*((0:Nat):Int)=0 by simp,Rat.zpow_zero]
 |n+1=>by rw[Rat.pow_succ,p2_pow q n,← p2_add];congr 1;push_cast;rw[Int.mul_add,Int.mul_one]
theorem mD_pow (n:Nat):mD^n=(2:Rat)^(-((30*n:Nat):Int)):=by rw[mD_eq,p2_pow];congr 1
theorem rD_pow:64*rD^10+1≤big200:=by rw[big200_eq];unfold rD;decide +kernel
theorem mD_ok:16*tn≤1/1000*eps*mD^10:=by rw[mD_pow];exact tn_eps (by decide)
section
variable {a1 a2 s1 s2 p z1 z2 d1 d2:Nat} {X Y S T:Int} {kind:Int} {D z:Cp} {R:Type}
theorem valP_leaf (h:ElD kind a1 a2 s1 s2 p X Y S T) (hz:IsZ z1 z2 z) (bz:Nm z 100000) (hs:∀(R:Type) (k:Nat→Nat→Option R),subK R z1 z2 a1 a2 k=k d1 d2) (hD:IsZ d1 d2 D) (hn:D.nsq≠0) {pre:Option R→Option R} (hpre:∀ x,pre x=x) (er:Int→Option R) (at0 leaf:Nat→Nat→Option R):
  valP (checkB placeK withinK noughtK wholeK) placeK noughtK subK kind p pre a1 a2 s1 s2 z1 z2 er at0 leaf=leaf d1 d2:=by
 unfold valP
 rw[h.chk]
 simp only[decide_true]
 rw[placeK_is hz.1 hz.2 (by have:=bz.re;grind) (by have:=bz.im;grind),forceB_eq]
 simp only
 rw[hpre,hs,noughtK_no hD hn,forceB_eq]
theorem valO_leaf {c1 c2:Nat} (h:ElD 2 a1 a2 s1 s2 p X Y S T) (hz:IsZ z1 z2 z) (bz:Nm z 100000) (hs:∀(R:Type) (k:Nat→Nat→Option R),subK R z1 z2 a1 a2 k=k d1 d2) (hD:IsZ d1 d2 D) (hn:D.nsq≠0) (hc:∀(R:Type) (k:Nat→Nat→Option R),sclK R s1 s2 4594902181429758083 k=k c1 c2) (er:Int→Option R) (leaf:Nat→Nat→Nat→Nat→Option R):
  valO (checkB placeK withinK noughtK wholeK) placeK noughtK subK sclK a1 a2 s1 s2 p z1 z2 er leaf=leaf c1 c2 d1 d2:=by
 unfold valO
 rw[h.chk]
 simp only[decide_true]
 rw[placeK_is hz.1 hz.2 (by have:=bz.re;grind) (by have:=bz.im;grind),forceB_eq]
 simp only
 rw[hc,hs,noughtK_no hD hn,forceB_eq]
end
def gz (S T:Int):Cp:=⟨(S:Rat),(T:Rat)⟩
theorem isC_z {a b:Nat} {S T:Int} (h:IsC a b S T):IsZ a b (gz S T):=⟨h.1,h.2⟩
theorem gz_zero {S T:Int} (h:gz S T≠Cp.zero):Ng (gz S T) 1:=by
 refine⟨by decide,?_⟩
 have:S≠0∨T≠0:=by
  refine Classical.byContradiction fun hn=>h ?_
  have h1:S=0:=Classical.byContradiction fun e=>hn (.inl e)
  have h2:T=0:=Classical.byContradiction fun e=>hn (.inr e)
  rw[h1,h2]
  exact Cp.ext' rfl rfl
 unfold gz Cp.nsq; simp only; have n1:((S.natAbs*S.natAbs:Nat):Int)=S*S:=Int.natAbs_mul_self; have n2:((T.natAbs*T.natAbs:Nat):Int)=T*T:=Int.natAbs_mul_self
 have:1≤S*S+T*T:=by
  rw[← n1,← n2]
  rcases this with h|h
  ·have:=Nat.mul_pos (show 0<S.natAbs by omega) (show 0<S.natAbs by omega)
   omega
  ·have:=Nat.mul_pos (show 0<T.natAbs by omega) (show 0<T.natAbs by omega)
   omega
 have q:((1:Int):Rat)≤((S*S+T*T:Int):Rat):=by exact_mod_cast this
 push_cast at q; grind
theorem gz_size {S T:Int} {B:Nat} (h:S.natAbs≤B) (g:T.natAbs≤B):Nm (gz S T) (3/2*(B:Rat)):=by
 have h1:=int_abs_le h; have h2:=int_abs_le g; have e:(((B:Nat):Int):Rat)=(B:Rat):=by norm_cast
 rw[e]at h1 h2
 exact nm_root h1 h2
theorem inv_sizes {D:Cp} {m r:Rat} (hm:Ng D m) (m0:0<m) (hr:Nm D r) (r0:0<r):Nm D.inv (m⁻¹)∧Ng D.inv (r⁻¹):=by
 have hn:=ng_ne hm m0; have e:=nsq_inv hn; have em:=Rat.mul_inv_cancel m (by grind); have er:=Rat.mul_inv_cancel r (by grind); have pm:=Rat.inv_pos.2 m0; have pr:=Rat.inv_pos.2 r0; have i0:=D.inv.nsq_nonneg; have h1:=hm.2; have h2:=hr.2; have N0:=D.nsq_nonneg; suffices key:D.inv.nsq≤m⁻¹*m⁻¹∧r⁻¹*r⁻¹≤D.inv.nsq from ⟨⟨Rat.le_of_lt pm,key.1⟩,⟨Rat.le_of_lt pr,key.2⟩⟩
 generalize D.inv.nsq=I at *
 generalize D.nsq=N at *
 generalize m⁻¹=u at *
 generalize r⁻¹=v at *
 constructor
 ·have k1:=Rat.mul_le_mul_of_nonneg_right h1 i0; have k2:=Rat.mul_le_mul_of_nonneg_left k1 (sq_nonneg u)
  have:u*u*(m*m*I)=I:=by
   have:u*u*(m*m*I)=(m*u)*(m*u)*I:=by grind
   rw[this,em];grind
  rwa [this,e,Rat.mul_one]at k2
 ·have k1:=Rat.mul_le_mul_of_nonneg_right h2 i0; have k2:=Rat.mul_le_mul_of_nonneg_left k1 (sq_nonneg v)
  have:v*v*(r*r*I)=I:=by
   have:v*v*(r*r*I)=(r*v)*(r*v)*I:=by grind
   rw[this,er];grind
  rwa [this,e,Rat.mul_one]at k2
end Go.Vx
namespace Go.Vm
def tm (x:Rat):Nat→Rat
 |0=>1
 |m+1=>tm x m*x/((m+1:Nat):Rat)
theorem nat_ne {m:Nat}:((m+1:Nat):Rat)≠0:=by
 have:(0:Rat)<((m+1:Nat):Rat):=by exact_mod_cast Nat.succ_pos m
 grind
theorem tm_succ (x:Rat) (m:Nat):((m+1:Nat):Rat)*tm x (m+1)=x*tm x m:=by
 have:=Rat.mul_inv_cancel _ (nat_ne (m:=m))
 simp only[tm]
 rw[Rat.div_def]
 generalize (((m+1:Nat):Rat))⁻¹=q at *
 generalize ((m+1:Nat):Rat)=a at *
 grind
theorem sm_shift (f:Nat→Rat):∀(m c:Nat),sm f (c+1) m=sm (fun j=>f (j+1)) c m
 |0,c=>rfl
 |m+1,c=>by simp only[sm];rw[sm_shift f m (c+1)]
def cv (a b:Nat→Rat) (s:Nat):Rat:=sm (fun m=>a m*b (s-m)) 0 (s+1)
theorem cv_step (x y:Rat) (s:Nat):((s+1:Nat):Rat)*cv (tm x) (tm y) (s+1)=(x+y)*cv (tm x) (tm y) s:=by
 unfold cv; have e1:((s+1:Nat):Rat)*sm (fun m=>tm x m*tm y (s+1-m)) 0 (s+1+1)=sm (fun m=>(((m:Nat):Rat)*tm x m)*tm y (s+1-m)) 0 (s+1+1)+sm (fun m=>tm x m*(((s+1-m:Nat):Rat)*tm y (s+1-m))) 0 (s+1+1):=by
  rw[← sm_mul,← sm_add]
  refine sm_congr _ _ fun m _ hm=>?_
  have:((s+1:Nat):Rat)=((m:Nat):Rat)+((s+1-m:Nat):Rat):=by
   rw[show s+1=m+(s+1-m) by omega]
   push_cast
   rw[show m+(s+1-m)-m=s+1-m by omega]
  rw[this]
  grind
 rw[e1]
 have e2:sm (fun m=>(((m:Nat):Rat)*tm x m)*tm y (s+1-m)) 0 (s+1+1)=x*sm (fun m=>tm x m*tm y (s-m)) 0 (s+1):=by
  show (((0:Nat):Rat)*tm x 0)*tm y (s+1-0)+sm (fun m=>(((m:Nat):Rat)*tm x m)*tm y (s+1-m)) (0+1) (s+1)=_
  rw[sm_shift,show ((0:Nat):Rat)=0 from rfl,← sm_mul]
  rw[show (0*tm x 0*tm y (s+1-0):Rat)=0 by grind,Rat.zero_add]
  refine(sm_congr (s+1) 0 fun m _ hm=>?_)
  rw[tm_succ,show s+1-(m+1)=s-m by omega]
  grind
 have e3:sm (fun m=>tm x m*(((s+1-m:Nat):Rat)*tm y (s+1-m))) 0 (s+1+1)=y*sm (fun m=>tm x m*tm y (s-m)) 0 (s+1):=by
  rw[sm_last,show s+1-(0+(s+1))=0 by omega,show ((0:Nat):Rat)=0 from rfl,← sm_mul]
  rw[show (tm x (0+(s+1))*(0*tm y 0):Rat)=0 by grind,Rat.add_zero]
  refine(sm_congr (s+1) 0 fun m _ hm=>?_)
  rw[show s+1-m=(s-m)+1 by omega,tm_succ]
  grind
 rw[e2,e3]
 grind
theorem tm_add (x y:Rat):∀ s,tm (x+y) s=cv (tm x) (tm y) s
 |0=>by show (1:Rat)=1*1+0;grind
 |s+1=>by
  have h1:=cv_step x y s; have h2:=tm_succ (x+y) s
  rw[tm_add x y s]at h2
  rw[← h1]at h2
  have hn:=nat_ne (m:=s)
  have:=Rat.mul_inv_cancel _ hn
  generalize (((s+1:Nat):Rat))⁻¹=q at *
  generalize ((s+1:Nat):Rat)=a at *
  grind
theorem triangle (a b:Nat→Rat):∀ N,sm (fun s=>cv a b s) 0 N=sm (fun m=>a m*sm b 0 (N-m)) 0 N
 |0=>rfl
 |N+1=>by
  rw[sm_last,sm_last,triangle a b N,Nat.zero_add]
  unfold cv
  rw[sm_last,Nat.zero_add,Nat.sub_self,show N+1-N=1 by omega]
  have e:sm (fun m=>a m*sm b 0 (N+1-m)) 0 N=sm (fun m=>a m*sm b 0 (N-m)) 0 N+sm (fun m=>a m*b (N-m)) 0 N:=by
   rw[← sm_add]
   refine sm_congr _ _ fun m _ hm=>?_
   rw[show N+1-m=(N-m)+1 by omega,sm_last,Nat.zero_add]
   grind
  rw[e]
  simp only[sm]
  grind
theorem sm_mono (f g:Nat→Rat) (m c:Nat) (h:∀ j,c≤j→j<c+m→f j≤g j):sm f c m≤sm g c m:=by
 induction m generalizing c with
 |zero=>simp only[sm];exact Rat.le_refl
 |succ m ih=>
  simp only[sm]
  have h1:=h c (Nat.le_refl _) (by omega); have h2:=ih (c+1) fun j g1 g2=>h j (by omega) (by omega)
  grind
theorem sm_neg (f:Nat→Rat) (m c:Nat):sm (fun j=>-(f j)) c m=-(sm f c m):=by
 have:=sm_mul (-1) f m c
 rw[sm_congr (f:=fun j=>-(f j)) (g:=fun j=>-1*f j) m c fun j _ _=>by grind,this]
 grind
theorem sq_tri (a b:Nat→Rat) (N:Nat):sm a 0 N*sm b 0 N-sm (fun s=>cv a b s) 0 N=sm (fun m=>a m*sm b (N-m) m) 0 N:=by
 rw[triangle]
 have e:sm (fun m=>a m*sm b (N-m) m) 0 N=sm (fun m=>sm b 0 N*a m) 0 N+sm (fun m=>-(a m*sm b 0 (N-m))) 0 N:=by
  rw[← sm_add]
  refine sm_congr _ _ fun m _ hm=>?_
  have:=sm_split b (N-m) m 0
  rw[show N-m+m=N by omega,Nat.zero_add]at this
  grind
 rw[e,sm_mul,sm_neg]
 grind
theorem tm_nonneg {x:Rat} (h:0≤x):∀ m,0≤tm x m
 |0=>by simp only[tm];grind
 |m+1=>by
  simp only[tm]
  rw[Rat.div_def]
  have h1:=Rat.mul_nonneg (tm_nonneg h m) h; have h2:(0:Rat)≤(((m+1:Nat):Rat))⁻¹:=Rat.le_of_lt (Rat.inv_pos.2 (by exact_mod_cast Nat.succ_pos m)); exact Rat.mul_nonneg h1 h2
theorem tm_abs (x:Rat):∀ m,(tm x m).abs=tm x.abs m
 |0=>by simp only[tm];exact Rat.abs_of_nonneg (by grind)
 |m+1=>by
  simp only[tm]
  have h2:(0:Rat)≤(((m+1:Nat):Rat))⁻¹:=Rat.le_of_lt (Rat.inv_pos.2 (by exact_mod_cast Nat.succ_pos m))
  rw[Rat.div_def,Rat.div_def,abs_mul,abs_mul,tm_abs x m,Rat.abs_of_nonneg h2]
theorem square_le {a b:Nat→Rat} (ha:∀ m,0≤a m) (hb:∀ m,0≤b m) (N:Nat):sm a 0 N*sm b 0 N≤sm (fun s=>cv a b s) 0 (N+N):=by
 rw[triangle,sm_split]
 have mono:∀ i j,i≤j→sm b 0 i≤sm b 0 j:=fun i j h=>by
  have:=sm_split b i (j-i) 0
  rw[show i+(j-i)=j by omega]at this
  have:=sm_nonneg hb (j-i) (0+i)
  grind
 have h1:sm a 0 N*sm b 0 N≤sm (fun m=>a m*sm b 0 (N+N-m)) 0 N:=by
  rw[Rat.mul_comm,← sm_mul]
  refine sm_mono _ _ _ _ fun m _ hm=>?_
  have:=Rat.mul_le_mul_of_nonneg_left (mono N (N+N-m) (by omega)) (ha m)
  grind
 have h2:=sm_nonneg (f:=fun m=>a m*sm b 0 (N+N-m)) (fun m=>Rat.mul_nonneg (ha m) (sm_nonneg hb _ _)) N (0+N); grind
theorem bil {a b A B:Nat→Rat} (ha:∀ m,(a m).abs≤A m) (hb:∀ m,(b m).abs≤B m) (N:Nat):(sm a 0 N*sm b 0 N-sm (fun s=>cv a b s) 0 N).abs≤sm (fun s=>cv A B s) N N:=by
 have A0:∀ m,0≤A m:=fun m=>Rat.le_trans (abs_nonneg _) (ha m)
 have B0:∀ m,0≤B m:=fun m=>Rat.le_trans (abs_nonneg _) (hb m)
 have h1:(sm (fun m=>a m*sm b (N-m) m) 0 N).abs≤sm (fun m=>A m*sm B (N-m) m) 0 N:=sm_abs N 0 fun m _ _=>by
  rw[abs_mul]
  exact mul_mono' (ha m) (sm_abs m (N-m) fun j _ _=>hb j) (abs_nonneg _) (A0 m)
 rw[sq_tri]
 rw[← sq_tri A B N]at h1
 have h2:=square_le A0 B0 N
 rw[sm_split,Nat.zero_add]at h2
 grind
theorem tm_mono {x y:Rat} (h0:0≤x) (h:x≤y):∀ m,tm x m≤tm y m
 |0=>Rat.le_refl
 |m+1=>by
  simp only[tm]
  rw[Rat.div_def,Rat.div_def]
  have h2:(0:Rat)≤(((m+1:Nat):Rat))⁻¹:=Rat.le_of_lt (Rat.inv_pos.2 (by exact_mod_cast Nat.succ_pos m)); exact Rat.mul_le_mul_of_nonneg_right (mul_mono' (tm_mono h0 h m) h h0 (Rat.le_trans (tm_nonneg h0 m) (tm_mono h0 h m))) h2
def reI (m:Nat):Rat:=match m % 4 with
 |0=>1
 |1=>0
 |2=>-1
 |_=>0
def iI (m:Nat):Rat:=match m % 4 with
 |0=>0
 |1=>1
 |2=>0
 |_=>-1
theorem ri_add (m l:Nat):reI (m+l)=reI m*reI l-iI m*iI l∧iI (m+l)=reI m*iI l+iI m*reI l:=by
 unfold reI iI
 rw[Nat.add_mod]
 have h1:=Nat.mod_lt m (show 0<4 by decide); have h2:=Nat.mod_lt l (show 0<4 by decide); generalize m % 4=a at *
 generalize l % 4=b at *
 match a,b,h1,h2 with
 |0,0,_,_=>exact⟨by decide +kernel,by decide +kernel⟩
 |0,1,_,_=>exact⟨by decide +kernel,by decide +kernel⟩
 |0,2,_,_=>exact⟨by decide +kernel,by decide +kernel⟩
 |0,3,_,_=>exact⟨by decide +kernel,by decide +kernel⟩
 |1,0,_,_=>exact⟨by decide +kernel,by decide +kernel⟩
 |1,1,_,_=>exact⟨by decide +kernel,by decide +kernel⟩
 |1,2,_,_=>exact⟨by decide +kernel,by decide +kernel⟩
 |1,3,_,_=>exact⟨by decide +kernel,by decide +kernel⟩
 |2,0,_,_=>exact⟨by decide +kernel,by decide +kernel⟩
 |2,1,_,_=>exact⟨by decide +kernel,by decide +kernel⟩
 |2,2,_,_=>exact⟨by decide +kernel,by decide +kernel⟩
 |2,3,_,_=>exact⟨by decide +kernel,by decide +kernel⟩
 |3,0,_,_=>exact⟨by decide +kernel,by decide +kernel⟩
 |3,1,_,_=>exact⟨by decide +kernel,by decide +kernel⟩
 |3,2,_,_=>exact⟨by decide +kernel,by decide +kernel⟩
 |3,3,_,_=>exact⟨by decide +kernel,by decide +kernel⟩
theorem ri_abs (m:Nat):(reI m).abs≤1∧(iI m).abs≤1:=by
 unfold reI iI; have h1:=Nat.mod_lt m (show 0<4 by decide); generalize m % 4=a at *
 match a,h1 with
 |0,_=>exact⟨by decide +kernel,by decide +kernel⟩
 |1,_=>exact⟨by decide +kernel,by decide +kernel⟩
 |2,_=>exact⟨by decide +kernel,by decide +kernel⟩
 |3,_=>exact⟨by decide +kernel,by decide +kernel⟩
def csN (x:Rat):Rat:=sm (fun m=>reI m*tm x m) 0 64
def snN (x:Rat):Rat:=sm (fun m=>iI m*tm x m) 0 64
def tlN:Rat:=sm (tm 8) 64 64
theorem tl_small:tlN≤1/1000000000000000000000000000000:=by decide +kernel
theorem term_le (x:Rat) (m:Nat):(reI m*tm x m).abs≤tm x.abs m∧(iI m*tm x m).abs≤tm x.abs m:=by
 have h:=ri_abs m; have t:=tm_nonneg (abs_nonneg x) m
 rw[abs_mul,abs_mul,tm_abs]
 have h1:=Rat.mul_le_mul_of_nonneg_right h.1 t; have h2:=Rat.mul_le_mul_of_nonneg_right h.2 t
 exact⟨by grind,by grind⟩
theorem cv_tail {x y:Rat} (h:x.abs+y.abs≤8):sm (fun s=>cv (tm x.abs) (tm y.abs) s) 64 64≤tlN:=by
 unfold tlN; refine sm_mono _ _ _ _ fun s _ _=>?_
 rw[← tm_add]
 have:=abs_nonneg x
 have:=abs_nonneg y
 exact tm_mono (by grind) h s
theorem sm_sub' (f g:Nat→Rat) (m c:Nat):sm f c m-sm g c m=sm (fun j=>f j-g j) c m:=by
 have h:=sm_add (fun j=>f j-g j) g m c
 rw[sm_congr (f:=fun j=>f j-g j+g j) (g:=f) m c fun j _ _=>by grind]at h
 grind
theorem cv_sub (a b c d:Nat→Rat) (s:Nat):cv a b s-cv c d s=sm (fun m=>a m*b (s-m)-c m*d (s-m)) 0 (s+1):=by
 unfold cv
 rw[sm_congr (f:=fun m=>a m*b (s-m)-c m*d (s-m)) (g:=fun m=>a m*b (s-m)+-(c m*d (s-m))) (s+1) 0 fun j _ _=>by grind,sm_add,sm_neg]
 grind
theorem cs_add {x y:Rat} (h:x.abs+y.abs≤8):(csN (x+y)-(csN x*csN y-snN x*snN y)).abs≤2*tlN∧(snN (x+y)-(csN x*snN y+snN x*csN y)).abs≤2*tlN:=by
 have t:=cv_tail h; have b1:=bil (fun m=>(term_le x m).1) (fun m=>(term_le y m).1) 64; have b2:=bil (fun m=>(term_le x m).2) (fun m=>(term_le y m).2) 64; have b3:=bil (fun m=>(term_le x m).1) (fun m=>(term_le y m).2) 64; have b4:=bil (fun m=>(term_le x m).2) (fun m=>(term_le y m).1) 64; have e1:csN (x+y)=sm (fun s=>cv (fun m=>reI m*tm x m) (fun m=>reI m*tm y m) s) 0 64-sm (fun s=>cv (fun m=>iI m*tm x m) (fun m=>iI m*tm y m) s) 0 64:=by
  rw[sm_sub']
  unfold csN; refine sm_congr _ _ fun s _ _=>?_
  rw[cv_sub,tm_add]
  unfold cv
  rw[← sm_mul]
  refine sm_congr _ _ fun m _ hm=>?_
  have:=(ri_add m (s-m)).1
  rw[show m+(s-m)=s by omega]at this
  rw[this]
  grind
 have e2:snN (x+y)=sm (fun s=>cv (fun m=>reI m*tm x m) (fun m=>iI m*tm y m) s) 0 64+sm (fun s=>cv (fun m=>iI m*tm x m) (fun m=>reI m*tm y m) s) 0 64:=by
  rw[← sm_add]
  unfold snN; refine sm_congr _ _ fun s _ _=>?_
  rw[tm_add]
  unfold cv
  rw[← sm_add,← sm_mul]
  refine sm_congr _ _ fun m _ hm=>?_
  have:=(ri_add m (s-m)).2
  rw[show m+(s-m)=s by omega]at this
  rw[this]
  grind
 change (csN x*csN y-_).abs≤_ at b1; change (snN x*snN y-_).abs≤_ at b2; change (csN x*snN y-_).abs≤_ at b3; change (snN x*csN y-_).abs≤_ at b4
 rw[e1,e2]
 generalize sm (fun s=>cv (fun m=>reI m*tm x m) (fun m=>reI m*tm y m) s) 0 64=A at *
 generalize sm (fun s=>cv (fun m=>iI m*tm x m) (fun m=>iI m*tm y m) s) 0 64=B at *
 generalize sm (fun s=>cv (fun m=>reI m*tm x m) (fun m=>iI m*tm y m) s) 0 64=C at *
 generalize sm (fun s=>cv (fun m=>iI m*tm x m) (fun m=>reI m*tm y m) s) 0 64=D at *
 clear e1 e2; have g1:=abs_le_iff.1 b1; have g2:=abs_le_iff.1 b2; have g3:=abs_le_iff.1 b3; have g4:=abs_le_iff.1 b4
 exact⟨abs_le_iff.2 ⟨by grind,by grind⟩,abs_le_iff.2 ⟨by grind,by grind⟩⟩
theorem tm_neg (x:Rat):∀ m,tm (-x) m=(if m % 2=0 then 1 else -1)*tm x m
 |0=>by show (1:Rat)=(if 0 % 2=0 then 1 else -1)*1;rw[if_pos rfl];grind
 |m+1=>by
  simp only[tm]
  rw[tm_neg x m,Rat.div_def,Rat.div_def]
  rcases Nat.mod_two_eq_zero_or_one m with h|h
  ·rw[if_pos h,if_neg (by omega)];grind
  ·rw[if_neg (by omega),if_pos (by omega)];grind
theorem cs_neg (x:Rat):csN (-x)=csN x∧snN (-x)=-(snN x):=by
 constructor
 ·unfold csN; refine sm_congr _ _ fun m _ _=>?_
  rw[tm_neg]
  unfold reI; have h1:=Nat.mod_lt m (show 0<4 by decide); have h2:m % 2=m % 4 % 2:=by omega
  rw[h2]
  generalize m % 4=a at *
  match a,h1 with
  |0,_=>simp
  |1,_=>simp
  |2,_=>simp
  |3,_=>simp
 ·unfold snN
  rw[← sm_neg]
  refine sm_congr _ _ fun m _ _=>?_
  rw[tm_neg]
  unfold iI; have h1:=Nat.mod_lt m (show 0<4 by decide); have h2:m % 2=m % 4 % 2:=by omega
  rw[h2]
  generalize m % 4=a at *
  match a,h1 with
  |0,_=>simp
  |1,_=>simp;grind
  |2,_=>simp
  |3,_=>simp;grind
theorem cs_zero:csN 0=1∧snN 0=0:=by decide +kernel
theorem cs_one {x:Rat} (h:x.abs≤35/10):(csN x*csN x+snN x*snN x-1).abs≤2*tlN:=by
 have h1:=(cs_add (x:=x) (y:=-x) (by rw[abs_neg];grind)).1
 rw[(cs_neg x).1,(cs_neg x).2,show x+-x=0 by grind,cs_zero.1]at h1
 rw[show csN x*csN x+snN x*snN x-1=-(1-(csN x*csN x-snN x*-(snN x))) by grind,abs_neg]
 exact h1
def qP:Rat:=1686629713/1073741824+2242054355/36893488147419103232+160220439/79228162514264337593543950336
def kP:Rat:=1/10000000000000000000000000000
theorem quarter_1:(csN qP).abs≤kP∧(snN qP-1).abs≤kP:=by decide +kernel
theorem quarter_2:(csN (2*qP)+1).abs≤kP∧(snN (2*qP)).abs≤kP:=by decide +kernel
theorem quarter_3:(csN (3*qP)).abs≤kP∧(snN (3*qP)+1).abs≤kP:=by decide +kernel
theorem quarter_4:(csN (4*qP)-1).abs≤kP∧(snN (4*qP)).abs≤kP:=by decide +kernel
theorem tl_kP:2*tlN≤kP:=by decide +kernel
theorem kP_small:0<kP∧kP≤eps*(1/1000000):=by
 rw[eps_eq]
 unfold kP
 exact⟨by decide +kernel,by decide +kernel⟩
theorem qP_in:15707963/10000000≤qP∧qP≤15707964/10000000:=by decide +kernel
theorem tm_rest {d:Rat} (h0:0≤d) (h:d≤1/2):∀ k m,sm (tm d) (m+1) k≤2*tm d (m+1)
 |0,m=>by simp only[sm];have:=tm_nonneg h0 (m+1);grind
 |k+1,m=>by
  show tm d (m+1)+sm (tm d) (m+1+1) k≤_; have h1:=tm_rest h0 h k (m+1); have h2:=tm_succ d (m+1); have h3:=tm_nonneg h0 (m+1); have h4:=tm_nonneg h0 (m+1+1); have h5:(2:Rat)≤((m+1+1:Nat):Rat):=by exact_mod_cast (show 2≤m+1+1 by omega)
  have h6:=Rat.mul_le_mul_of_nonneg_right h5 h4; have h7:=Rat.mul_le_mul_of_nonneg_right h h3; grind
theorem cs_bd {x:Rat} (h:x.abs≤35/10):(csN x).abs≤1001/1000∧(snN x).abs≤1001/1000:=by
 have h1:=abs_le_iff.1 (cs_one h); have t:=tl_small; have key:∀{a b:Rat},a*a+b*b-1≤2*tlN→a.abs≤1001/1000:=fun{a b} hab=>by
  refine le_of_sq_le (by grind) ?_
  have:a.abs*a.abs=a*a:=by rw[← abs_mul,sq_abs]
  have:=sq_nonneg b
  grind
 exact⟨key h1.2,key (a:=snN x) (b:=csN x) (by grind)⟩
end Go.Vm
