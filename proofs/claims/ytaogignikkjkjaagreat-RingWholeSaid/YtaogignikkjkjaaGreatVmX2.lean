/- A part of the evaluator and of what is told of floats; no conditions. -/
import Derived.Test.YtaogignikkjkjaaGreatVmX1
import Derived.Test.YtaogignikkjkjaaGreatVmW9
import Derived.Test.YtaogignikkjkjaaGreatVmP26
import Derived.Test.YtaogignikkjkjaaGreatVmWB6
import Derived.Test.YtaogignikkjkjaaGreatVmZX
set_option linter.unusedSectionVars false
set_option linter.unusedSimpArgs false
set_option linter.unusedVariables false
set_option maxRecDepth 1000000
namespace Go.Vx
open Go.Vm
def geoL:List Fc→Bool
 |[]=>true
 |.geo _ _::L=>geoL L
 |.lin _ _::_=>false
theorem eL_nonneg {σ:Rat} (h:0≤σ) (m:Nat) (L:List Fc):0≤eL σ m L:=by
 unfold eL; have t0:=th_nonneg m; have k1:=kap_pos L; have s0:0≤σ*((m+cntL L:Nat):Rat):=Rat.mul_nonneg h (by exact_mod_cast Nat.zero_le _)
 have:=Rat.mul_nonneg (Rat.le_trans (by decide) k1) t0
 grind
section
variable {ρ σ:Rat} {n:Nat} {x:Nat→Cp} (hx:Pts ρ σ n x)
include hx
theorem prod_one (hn:0<n):∀(L:List Fc),OkL ρ L→geoL L=true→Nm (csm (fun k=>prodF L (x k)) n-Cp.of (n:Rat)) ((n:Rat)*(wL L*eL σ 1 L)):=by
 have n0:(0:Rat)≤(n:Rat):=by exact_mod_cast Nat.zero_le n
 intro L; induction L with
 |nil=>
  intro hL _; have e:csm (fun k=>prodF [] (x k)) n=Cp.of (n:Rat):=csm_one n
  rw[e,Cp.sub_self]
  exact nm_zero.mono (Rat.mul_nonneg n0 (by unfold wL;rw[Rat.one_mul];exact eL_nonneg hx.sig _ _))
 |cons f L ih=>
  intro hL hg
  obtain⟨h1,h2⟩:=okL_cons hL
  cases f with
  |lin a q=>cases hg
  |geo b q=>
   have ih:=ih h2 hg
   obtain⟨r,r1,r0,r2,r3,w1,w2,q1⟩:=geo_mix hx hL hn
   have hs:=prod_sum hx hn _ hL 1 (Nat.le_refl 1); have e:csm (fun k=>prodF (.geo b q::L) (x k)) n-Cp.of (n:Rat)=(csm (fun k=>prodF L (x k)) n-Cp.of (n:Rat))+b*csm (fun k=>(x k).pw 1*prodF (.geo b q::L) (x k)) n:=by
    rw[← csm_mul]
    have:csm (fun k=>prodF (.geo b q::L) (x k)) n=csm (fun k=>prodF L (x k)) n+csm (fun k=>b*((x k).pw 1*prodF (.geo b q::L) (x k))) n:=by
     rw[← csm_add]
     refine csm_congr fun k hk=>?_
     show (Fc.geo b q).at (x k)*prodF L (x k)=prodF L (x k)+b*((x k).pw 1*((Fc.geo b q).at (x k)*prodF L (x k))); have g:=geo_step hx.one h1 (hx.at_ k hk)
     rw[Cp.pw_one]
     generalize (Fc.geo b q).at (x k)=u at *
     rw[← Cp.mul_assoc (x k),← Cp.mul_assoc b]
     conv=>lhs;rw[g]
     rw[Cp.add_mul,Cp.one_mul]
    rw[this]
    exact Cp.ext' (by simp only[Cp.add_re,Cp.sub_re];grind) (by simp only[Cp.add_im,Cp.sub_im];grind)
   rw[e]
   refine(ih.add (r1.mul hs)).mono ?_
   rw[w1]
   have W0:0≤wL (.geo b q::L):=Rat.le_trans (by decide) (prod_sup hx.one hL (hx.at_ 0 hn)).2; unfold eL; show (n:Rat)*((1-q)*wL (.geo b q::L)*(σ*((1+cntL L:Nat):Rat)+2*kapL L*th 1))+r*((n:Rat)*(wL (.geo b q::L)*(σ*((1+(2+cntL L):Nat):Rat)+2*(9/4*kapL L)*th 1)))≤(n:Rat)*(wL (.geo b q::L)*(σ*((1+(2+cntL L):Nat):Rat)+2*(9/4*kapL L)*th 1)); have c1:((1+(2+cntL L):Nat):Rat)=((1+cntL L:Nat):Rat)+2:=by push_cast;grind
   rw[c1]
   have s0:=hx.sig; have k1:=kap_pos L; have t0:=th_nonneg 1; have kt:=Rat.mul_nonneg (Rat.le_trans (by decide) k1) t0; have s1:=Rat.mul_nonneg hx.sig (show (0:Rat)≤((1+cntL L:Nat):Rat) by exact_mod_cast Nat.zero_le _); generalize wL (.geo b q::L)=W at *
   generalize ((1+cntL L:Nat):Rat)=c at *
   generalize kapL L=kk at *
   generalize th 1=t at *
   have nW:=Rat.mul_nonneg n0 W0; have X0:0≤σ*(c+2)+2*(9/4*kk)*t:=by grind
   have a1:=Rat.mul_le_mul_of_nonneg_right r2 (Rat.mul_nonneg nW X0); have a2:=Rat.mul_le_mul_of_nonneg_left (show (1-q)*(σ*c+2*kk*t)≤(1-q)*(σ*(c+2)+2*(9/4*kk)*t) from Rat.mul_le_mul_of_nonneg_left (by grind) (Rat.le_of_lt q1)) nW; grind
end
def FvG (inv be:Cp) (g:Nat→Cp):Nat→Cp
 |0=>Cp.zero
 |q+1=>(g (q+1)+be*FvG inv be g q)*inv
def Fv (b:Cp):List Fc→Nat→Cp
 |[],q=>match q with
  |1=>Cp.one
  |_=>Cp.zero
 |.lin a _::L,q=>match q with
  |0=>Cp.zero
  |q+1=>Fv b L q+(b-a)*Fv b L (q+1)
 |.geo be _::L,q=>FvG (Cp.one-b*be).inv be (Fv b L) q
theorem Fv_zero (b:Cp) (L:List Fc):Fv b L 0=Cp.zero:=by
 match L with
 |[]=>rfl
 |.lin _ _::_=>rfl
 |.geo _ _::_=>rfl
theorem Fv_geo {b be:Cp} {p:Rat} (L:List Fc) (q:Nat) (h:(Cp.one-b*be).nsq≠0):(Cp.one-b*be)*Fv b (.geo be p::L) (q+1)=Fv b L (q+1)+be*Fv b (.geo be p::L) q:=by
 show (Cp.one-b*be)*((Fv b L (q+1)+be*Fv b (.geo be p::L) q)*(Cp.one-b*be).inv)=_
 rw[Cp.mul_left_comm,Cp.inv_mul h,Cp.mul_one]
def repF (b:Cp) (qb:Rat):Nat→List Fc
 |0=>[]
 |q+1=>.geo b qb::repF b qb q
theorem repF_ok {ρ qb:Rat} {b:Cp} (h:(Fc.geo b qb).Ok ρ):∀ q,OkL ρ (repF b qb q)
 |0=>fun f hf=>by simp[repF]at hf
 |q+1=>fun f hf=>by
  rcases List.mem_cons.1 hf with rfl|hf
  ·exact h
  ·exact repF_ok h q f hf
theorem repF_geo (b:Cp) (qb:Rat):∀ q,geoL (repF b qb q)=true
 |0=>rfl
 |q+1=>repF_geo b qb q
theorem repF_w (b:Cp) (qb:Rat):∀ q,wL (repF b qb q)=((1-qb)⁻¹)^q
 |0=>by rw[Rat.pow_zero];rfl
 |q+1=>by rw[Rat.pow_succ,← repF_w b qb q,Rat.mul_comm];rfl
theorem repF_prod (b:Cp) (qb:Rat) (x:Cp):∀ q,prodF (repF b qb q) x=((Fc.geo b qb).at x).pw q
 |0=>rfl
 |q+1=>by
  show (Fc.geo b qb).at x*prodF (repF b qb q) x=((Fc.geo b qb).at x).pw q*(Fc.geo b qb).at x
  rw[repF_prod b qb x q,Cp.mul_comm]
theorem repF_cnt (b:Cp) (qb:Rat):∀ q,cntL (repF b qb q)=2*q
 |0=>rfl
 |q+1=>by show 2+cntL (repF b qb q)=_;rw[repF_cnt b qb q];omega
theorem repF_kap (b:Cp) (qb:Rat):∀ q,kapL (repF b qb q)=(9/4)^q
 |0=>by rw[Rat.pow_zero];rfl
 |q+1=>by rw[Rat.pow_succ,← repF_kap b qb q,Rat.mul_comm];rfl
def inV (b:Cp) (qb:Rat) (q:Nat) (w:Cp):Cp:=w.pw q*((Fc.geo b qb).at w).pw q
theorem inV_succ (b:Cp) (qb:Rat) (q:Nat) (w:Cp):inV b qb (q+1) w=inV b qb q w*(w*(Fc.geo b qb).at w):=by
 unfold inV; simp only[Cp.pw]
 rw[Cp.mul_assoc,Cp.mul_assoc,Cp.mul_left_comm w]
section
variable {ρ σ:Rat} {n:Nat} {z w:Nat→Cp} (hz:Pts ρ σ n z) (hw:Pts ρ σ n w) (hzw:∀ k,k<n→z k*w k=Cp.one)
include hz hw hzw
theorem in_back {b:Cp} {qb:Rat} (hb:(Fc.geo b qb).Ok ρ) {q:Nat} {k:Nat} (hk:k<n):(z k-b)*inV b qb (q+1) (w k)=inV b qb q (w k):=by
 have e:=Cp.inv_mul (geo_bd hw.one hb (hw.at_ k hk)).2.1
 rw[inV_succ,Cp.mul_left_comm]
 have:(z k-b)*(w k*(Fc.geo b qb).at (w k))=Cp.one:=by
  rw[← Cp.mul_assoc,Cp.sub_mul,hzw k hk]
  exact e
 rw[this,Cp.mul_one]
theorem pole_sum (hn:0<n) {b:Cp} {qb:Rat} (hb:(Fc.geo b qb).Ok ρ) {E:Rat} (hE0:∀ q,1≤q→q≤9→eL σ (if q=1 then 1 else q-1) (repF b qb q)≤E):∀(L:List Fc),OkL ρ L→(∀ M,M <:+ L→eL σ 1 M≤E)→∀ q,q≤9→
  Nm (csm (fun k=>z k*(inV b qb q (w k)*prodF L (z k))) n-Cp.of (n:Rat)*Fv b L q) ((n:Rat)*(wL (repF b qb q)*wL L*E)):=by
 have n0:(0:Rat)≤(n:Rat):=by exact_mod_cast Nat.zero_le n
 have zero_q:∀(L:List Fc),OkL ρ L→eL σ 1 L≤E→Nm (csm (fun k=>z k*(inV b qb 0 (w k)*prodF L (z k))) n-Cp.of (n:Rat)*Fv b L 0) ((n:Rat)*(wL (repF b qb 0)*wL L*E)):=fun L hL hE=>by
  have h:=prod_sum hz hn L hL 1 (Nat.le_refl 1)
  rw[Fv_zero,Cp.mul_zero]
  have e:csm (fun k=>z k*(inV b qb 0 (w k)*prodF L (z k))) n-Cp.zero=csm (fun k=>(z k).pw 1*prodF L (z k)) n:=by
   rw[show csm (fun k=>z k*(inV b qb 0 (w k)*prodF L (z k))) n-Cp.zero=csm (fun k=>z k*(inV b qb 0 (w k)*prodF L (z k))) n from Cp.ext' (by simp only[Cp.sub_re,Cp.zero_re];grind) (by simp only[Cp.sub_im,Cp.zero_im];grind)]
   refine csm_congr fun k _=>?_
   rw[Cp.pw_one]
   show z k*(Cp.one*Cp.one*prodF L (z k))=_
   rw[Cp.one_mul,Cp.one_mul]
  rw[e]
  refine h.mono (Rat.mul_le_mul_of_nonneg_left ?_ n0)
  show wL L*eL σ 1 L≤1*wL L*E
  rw[Rat.one_mul]
  exact Rat.mul_le_mul_of_nonneg_left hE (Rat.le_trans (by decide) (prod_sup hz.one hL (hz.at_ 0 hn)).2)
 intro L; induction L with
 |nil=>
  intro hL hE q hq; cases q with
  |zero=>exact zero_q [] hL (hE [] (List.suffix_refl _))
  |succ q=>
   have hEq:=hE0 (q+1) (by omega) hq; have W0:0≤wL (repF b qb (q+1)):=Rat.le_trans (by decide) (prod_sup hw.one (repF_ok hb (q+1)) (hw.at_ 0 hn)).2; have e:∀ k,k<n→z k*(inV b qb (q+1) (w k)*prodF [] (z k))=(w k).pw q*prodF (repF b qb (q+1)) (w k):=fun k hk=>by
    show z k*(inV b qb (q+1) (w k)*Cp.one)=_
    rw[Cp.mul_one,repF_prod]
    unfold inV; simp only[Cp.pw]
    rw[Cp.mul_assoc ((w k).pw q) (w k),Cp.mul_left_comm (z k),← Cp.mul_assoc (z k) (w k),hzw k hk,Cp.one_mul]
   rw[csm_congr e]
   cases q with
   |zero=>
    have h:=prod_one hw hn (repF b qb 1) (repF_ok hb 1) (repF_geo b qb 1); have e2:csm (fun k=>(w k).pw 0*prodF (repF b qb (0+1)) (w k)) n-Cp.of (n:Rat)*Fv b [] (0+1)=csm (fun k=>prodF (repF b qb 1) (w k)) n-Cp.of (n:Rat):=by
     have:csm (fun k=>(w k).pw 0*prodF (repF b qb (0+1)) (w k)) n=csm (fun k=>prodF (repF b qb 1) (w k)) n:=csm_congr fun k _=>Cp.one_mul _
     rw[this]
     show _-Cp.of (n:Rat)*Cp.one=_
     rw[Cp.mul_one]
    rw[e2]
    refine h.mono (Rat.mul_le_mul_of_nonneg_left ?_ n0)
    rw[if_pos rfl]at hEq
    show _≤wL (repF b qb 1)*1*E
    rw[Rat.mul_one]
    exact Rat.mul_le_mul_of_nonneg_left hEq W0
   |succ q=>
    have h:=prod_sum hw hn (repF b qb (q+1+1)) (repF_ok hb _) (q+1) (by omega); have e2:csm (fun k=>(w k).pw (q+1)*prodF (repF b qb (q+1+1)) (w k)) n-Cp.of (n:Rat)*Fv b [] (q+1+1)=csm (fun k=>(w k).pw (q+1)*prodF (repF b qb (q+1+1)) (w k)) n:=by
     show _-Cp.of (n:Rat)*Cp.zero=_
     rw[Cp.mul_zero]
     exact Cp.ext' (by simp only[Cp.sub_re,Cp.zero_re];grind) (by simp only[Cp.sub_im,Cp.zero_im];grind)
    rw[e2]
    refine h.mono (Rat.mul_le_mul_of_nonneg_left ?_ n0)
    rw[if_neg (by omega),show q+1+1-1=q+1 by omega]at hEq
    show _≤wL (repF b qb (q+1+1))*1*E
    rw[Rat.mul_one]
    exact Rat.mul_le_mul_of_nonneg_left hEq W0
 |cons f L ih=>
  intro hL hE
  obtain⟨h1,h2⟩:=okL_cons hL
  have hE':∀ M,M <:+ L→eL σ 1 M≤E:=fun M hM=>hE M (hM.trans (List.suffix_cons f L))
  have ih:=ih h2 hE'; have E0:0≤E:=Rat.le_trans (eL_nonneg hz.sig 1 (f::L)) (hE _ (List.suffix_refl _)); have w2:1≤wL L:=(prod_sup hz.one h2 (hz.at_ 0 hn)).2; intro q; induction q with
  |zero=>exact fun _=>zero_q _ hL (hE _ (List.suffix_refl _))
  |succ q jh=>
   intro hq; have jh:=jh (by omega)
   obtain⟨rb,b1,b0,b2,b3,bw,_,bq⟩:=geo_mix hw (L:=repF b qb q) (b:=b) (q:=qb) (repF_ok hb (q+1)) hn
   change wL (repF b qb q)=(1-qb)*wL (repF b qb (q+1)) at bw; have V0:0≤wL (repF b qb (q+1)):=Rat.le_trans (by decide) (prod_sup hw.one (repF_ok hb (q+1)) (hw.at_ 0 hn)).2; cases f with
   |lin a p=>
    obtain⟨ra,a1,a2⟩:=h1
    have i1:=ih q (by omega); have i2:=ih (q+1) hq; have e:csm (fun k=>z k*(inV b qb (q+1) (w k)*prodF (.lin a p::L) (z k))) n-Cp.of (n:Rat)*Fv b (.lin a p::L) (q+1) =
      (csm (fun k=>z k*(inV b qb q (w k)*prodF L (z k))) n-Cp.of (n:Rat)*Fv b L q)+(b-a)*(csm (fun k=>z k*(inV b qb (q+1) (w k)*prodF L (z k))) n-Cp.of (n:Rat)*Fv b L (q+1)):=by
     show csm (fun k=>z k*(inV b qb (q+1) (w k)*((z k-a)*prodF L (z k)))) n-Cp.of (n:Rat)*(Fv b L q+(b-a)*Fv b L (q+1))=_
     have:csm (fun k=>z k*(inV b qb (q+1) (w k)*((z k-a)*prodF L (z k)))) n=csm (fun k=>z k*(inV b qb q (w k)*prodF L (z k))) n+(b-a)*csm (fun k=>z k*(inV b qb (q+1) (w k)*prodF L (z k))) n:=by
      rw[← csm_mul,← csm_add]
      refine csm_congr fun k hk=>?_
      have g:=in_back hz hw hzw hb (q:=q) hk
      rw[← g]
      generalize inV b qb (q+1) (w k)=u; generalize prodF L (z k)=v; refine Cp.ext' ?_ ?_
      ·simp only[Cp.add_re,Cp.sub_re,Cp.mul_re,Cp.sub_im,Cp.mul_im];grind
      ·simp only[Cp.add_im,Cp.sub_re,Cp.mul_re,Cp.sub_im,Cp.mul_im];grind
     rw[this]
     generalize csm (fun k=>z k*(inV b qb q (w k)*prodF L (z k))) n=A; generalize csm (fun k=>z k*(inV b qb (q+1) (w k)*prodF L (z k))) n=B; generalize Fv b L q=C; generalize Fv b L (q+1)=D; generalize Cp.of (n:Rat)=N
     rw[Cp.mul_add,Cp.mul_sub,Cp.mul_left_comm N]
     exact Cp.ext' (by simp only[Cp.add_re,Cp.sub_re];grind) (by simp only[Cp.add_im,Cp.sub_im];grind)
    rw[e]
    refine(i1.add ((b1.sub a1).mul i2)).mono ?_
    rw[bw]
    show _≤(n:Rat)*(wL (repF b qb (q+1))*((1+p)*wL L)*E); have hρ:=hz.one; have ra0:=a1.1; generalize wL (repF b qb (q+1))=V at *
    generalize wL L=W at *
    have A:=Rat.mul_nonneg n0 (Rat.mul_nonneg (Rat.mul_nonneg V0 (Rat.le_trans (by decide) w2)) E0); have m1:=Rat.mul_le_mul_of_nonneg_right (show 1-qb+(rb+ra)≤1+p by grind) A; grind
   |geo be p=>
    obtain⟨rc,c1,c0,c2,c3,cw,_,cq⟩:=geo_mix hz (L:=L) (b:=be) (q:=p) hL hn
    have i2:=ih (q+1) hq; have nbc:Nm (b*be) (rb*rc):=b1.mul c1; have rr:rb*rc≤qb*p:=mul_mono' b2 c2 c0 (Rat.le_trans b0 b2); have rr2:rb*rc≤1/2:=by have:=mul_mono' (show rb≤21/40 by grind) (show rc≤21/40 by grind) c0 (show (0:Rat)≤21/40 by grind);grind
    have g1:Ng (Cp.one-b*be) (1-rb*rc):=by
     rw[Cp.sub_eq]
     exact ng_sub (r:=1) ⟨by decide,by unfold Cp.nsq;simp only[Cp.one_re,Cp.one_im];grind⟩ nbc.neg (by grind)
    have hn1:(Cp.one-b*be).nsq≠0:=fun e=>by
     have:=g1.2
     rw[e]at this
     have:=Rat.mul_pos (show 0<1-rb*rc by grind) (show 0<1-rb*rc by grind)
     grind
    have e:(Cp.one-b*be)*(csm (fun k=>z k*(inV b qb (q+1) (w k)*prodF (.geo be p::L) (z k))) n-Cp.of (n:Rat)*Fv b (.geo be p::L) (q+1)) =
      (csm (fun k=>z k*(inV b qb (q+1) (w k)*prodF L (z k))) n-Cp.of (n:Rat)*Fv b L (q+1))+be*(csm (fun k=>z k*(inV b qb q (w k)*prodF (.geo be p::L) (z k))) n-Cp.of (n:Rat)*Fv b (.geo be p::L) q):=by
     have t1:(Cp.one-b*be)*csm (fun k=>z k*(inV b qb (q+1) (w k)*prodF (.geo be p::L) (z k))) n=csm (fun k=>z k*(inV b qb (q+1) (w k)*prodF L (z k))) n+be*csm (fun k=>z k*(inV b qb q (w k)*prodF (.geo be p::L) (z k))) n:=by
      rw[← csm_mul,← csm_mul,← csm_add]
      refine csm_congr fun k hk=>?_
      have g:=in_back hz hw hzw hb (q:=q) hk; have g2:(Cp.one-be*z k)*(Fc.geo be p).at (z k)=Cp.one:=Cp.inv_mul (geo_bd hz.one h1 (hz.at_ k hk)).2.1
      rw[← g]
      show (Cp.one-b*be)*(z k*(inV b qb (q+1) (w k)*((Fc.geo be p).at (z k)*prodF L (z k))))=z k*(inV b qb (q+1) (w k)*prodF L (z k))+be*(z k*((z k-b)*inV b qb (q+1) (w k)*((Fc.geo be p).at (z k)*prodF L (z k)))); generalize inV b qb (q+1) (w k)=u; generalize (Fc.geo be p).at (z k)=v at *
      generalize prodF L (z k)=t
      have:z k*(u*t)=(Cp.one-be*z k)*v*(z k*(u*t)):=by rw[g2,Cp.one_mul]
      rw[this]
      generalize z k=y; have cc:Cp.one-b*be=(Cp.one-be*y)+be*(y-b):=Cp.ext' (by simp only[Cp.add_re,Cp.sub_re,Cp.mul_re,Cp.sub_im];grind) (by simp only[Cp.add_im,Cp.sub_im,Cp.mul_im,Cp.sub_re];grind)
      rw[cc,Cp.add_mul]
      congr 1
      ·rw[Cp.mul_assoc]
       congr 1
       rw[Cp.mul_left_comm v,Cp.mul_left_comm v]
      ·rw[Cp.mul_assoc]
       congr 1
       rw[Cp.mul_assoc (y-b) u,Cp.mul_left_comm y (y-b)]
     rw[Cp.mul_sub,t1,Cp.mul_left_comm,Fv_geo L q hn1,Cp.mul_add,Cp.mul_sub,Cp.mul_left_comm (Cp.of (n:Rat)) be]
     generalize csm (fun k=>z k*(inV b qb (q+1) (w k)*prodF L (z k))) n=A; generalize csm (fun k=>z k*(inV b qb q (w k)*prodF (.geo be p::L) (z k))) n=B; generalize Cp.of (n:Rat)*Fv b L (q+1)=C; generalize be*(Cp.of (n:Rat)*Fv b (.geo be p::L) q)=D; exact Cp.ext' (by simp only[Cp.add_re,Cp.sub_re];grind) (by simp only[Cp.add_im,Cp.sub_im];grind)
    have hm:=i2.add (c1.mul jh)
    rw[← e]at hm
    have hm0:=hm.1; have tot:(n:Rat)*(wL (repF b qb (q+1))*wL L*E)+rc*((n:Rat)*(wL (repF b qb q)*wL (.geo be p::L)*E))≤(1-rb*rc)*((n:Rat)*(wL (repF b qb (q+1))*wL (.geo be p::L)*E)):=by
     rw[bw,cw]
     have Wc:0≤wL (.geo be p::L):=by
      have:=(prod_sup hz.one hL (hz.at_ 0 hn)).2
      grind
     generalize wL (repF b qb (q+1))=V at *
     generalize wL (.geo be p::L)=W at *
     have A:=Rat.mul_nonneg n0 (Rat.mul_nonneg (Rat.mul_nonneg V0 Wc) E0); have q1:=Rat.mul_le_mul_of_nonneg_right b2 c0; have m1:=Rat.mul_le_mul_of_nonneg_right (show (1-p)+rc*(1-qb)≤1-rb*rc by grind) A; grind
    generalize csm (fun k=>z k*(inV b qb (q+1) (w k)*prodF (.geo be p::L) (z k))) n-Cp.of (n:Rat)*Fv b (.geo be p::L) (q+1)=X at *
    generalize (n:Rat)*(wL (repF b qb (q+1))*wL (.geo be p::L)*E)=T at *
    have T0:0≤T:=by
     refine Rat.not_lt.1 fun hl=>?_
     have:=Rat.mul_lt_mul_of_pos_left hl (show 0<1-rb*rc by grind)
     grind
    refine⟨T0,?_⟩
    have h3:=hm.mono tot; have h4:=h3.2
    rw[Cp.nsq_mul]at h4
    have h5:=Rat.mul_le_mul_of_nonneg_right g1.2 X.nsq_nonneg; have p1:=Rat.mul_pos (show 0<1-rb*rc by grind) (show 0<1-rb*rc by grind); generalize X.nsq=S at *
    generalize 1-rb*rc=d at *
    refine Rat.not_lt.1 fun hl=>?_
    have:=Rat.mul_lt_mul_of_pos_left hl p1
    grind
end
theorem csm_cj (f:Nat→Cp):∀ n,(csm f n).cj=csm (fun k=>(f k).cj) n
 |0=>Cp.ext' rfl (by show -(0:Rat)=0;grind)
 |n+1=>by simp only[csm];rw[Cp.cj_add,csm_cj f n]
def rhoP:Rat:=1+17*eps
def sigP:Rat:=17*eps
theorem rho_one:1≤rhoP:=by have:=eps_pos;unfold rhoP;grind
theorem rho_in:rhoP≤1+1/100000000000000:=by unfold rhoP;rw[eps_eq];grind
theorem sig_nonneg:0≤sigP:=by have:=eps_pos;unfold sigP;grind
theorem rho_pow {m:Nat} (hm:m≤128):rhoP^m≤1+1/100000:=by
 have ep:=eps_pos; have e1:eps≤1/1000000000000000:=by rw[eps_eq];grind
 have m1:(m:Rat)≤128:=by exact_mod_cast hm
 have m0:(0:Rat)≤(m:Rat):=by exact_mod_cast Nat.zero_le m
 have q:=Rat.mul_le_mul_of_nonneg_right m1 (show 0≤17*eps by grind)
 have:=pow_small (e:=17*eps) (by grind) m (by grind)
 unfold rhoP; grind
section
variable {Q h:Rat} {n:Nat} (hQ:Circ Q) (n1:128≤n) (n2:n≤512) (hh:(n:Rat)*h=Q) {z w:Nat→Cp} (hz:∀ k,k<n→Nm (z k-om ((k:Rat)*h)) (16*eps)) (hw:∀ k,k<n→z k*w k=Cp.one)
include hQ n1 n2 hh hz
theorem z_sup {k:Nat} (hk:k<n):Nm (z k) rhoP:=by
 refine((hz k hk).near (om_k hQ n1 n2 hh (Nat.le_of_lt hk))).mono ?_
 have k1:=kP_small.2; unfold rhoP
 have:=eps_pos
 generalize kP=e at *
 grind
theorem near_sum {y o:Nat→Cp} (hy:∀ k,k<n→Nm (y k) rhoP) (ho:∀ k,k<n→Nm (o k) (1+6*kP)) (hd:∀ k,k<n→Nm (y k-o k) (16*eps*(1+1/1000))) {m:Nat} (hm1:1≤m) (hm2:m≤127)
  (hs:Nm (csm (fun k=>(o k).pw m) n) ((n:Rat)*((m:Rat)*(1/100000000000000000000000)))):Nm (csm (fun k=>(y k).pw m) n) ((n:Rat)*(sigP*(m:Rat))):=by
 have m0:(1:Rat)≤(m:Rat):=by exact_mod_cast hm1
 have n0:(0:Rat)≤(n:Rat):=by exact_mod_cast Nat.zero_le n
 have ep:=eps_pos; have D:∀ k,k<n→Nm ((y k).pw m-(o k).pw m) ((m:Rat)*(16*eps*(1+1/1000))*(1+1/100000)):=fun k hk=>by
  refine(pw_diff (hy k hk) ((ho k hk).mono ?_) rho_one (hd k hk) m).mono (Rat.mul_le_mul_of_nonneg_left (rho_pow (by omega)) (Rat.mul_nonneg (by grind) (by grind)))
  have k1:=kP_small.2; unfold rhoP; generalize kP=e at *
  grind
 have t:=nm_csm D
 rw[csm_sub]at t
 refine(t.near hs).mono ?_
 unfold sigP; have e1:1/100000000000000000000000≤eps*(1/1000000):=by rw[eps_eq];grind
 have a1:=Rat.mul_le_mul_of_nonneg_left e1 (show 0≤(m:Rat) by grind); have a2:=Rat.mul_le_mul_of_nonneg_left a1 n0; have a3:=Rat.mul_nonneg n0 (Rat.mul_nonneg (show 0≤(m:Rat) by grind) (Rat.le_of_lt ep)); generalize (1:Rat)/100000000000000000000000=c at *
 grind
theorem pts_z:Pts rhoP sigP n z where
 one:=rho_one
 half:=by have:=rho_in;grind
 big:=by have:=rho_pow (m:=128) (Nat.le_refl _);grind
 sig:=sig_nonneg
 at_:=fun k hk=>z_sup hQ n1 n2 hh hz hk
 sum:=fun m h1 h2=>near_sum hQ n1 n2 hh hz (o:=fun k=>om ((k:Rat)*h)) (fun k hk=>z_sup hQ n1 n2 hh hz hk) (fun k hk=>om_k hQ n1 n2 hh (Nat.le_of_lt hk)) (fun k hk=>(hz k hk).mono (by have:=eps_pos;grind)) h1 h2 (om_sum hQ n1 n2 hh h1 h2)
include hw
theorem w_near {k:Nat} (hk:k<n):Nm (w k-(om ((k:Rat)*h)).cj) (16*eps*(1+1/1000)):=by
 have ep:=eps_pos; have e1:eps≤1/1000000000000000:=by rw[eps_eq];grind
 have k1:=kP_small.2; have k2:=kp_tiny; have k0:=kp0; have o1:=om_k hQ n1 n2 hh (Nat.le_of_lt hk); have ol:=om_len (x:=(k:Rat)*h) (by have:=(kh_abs hQ n1 n2 hh (Nat.le_of_lt hk)).1;grind); have z1:=hz k hk; have a:Nm (Cp.of ((om ((k:Rat)*h)).nsq-1)) (20*kP):=nm_of ol; have b:=z1.mul o1.cj; have e:z k*(w k-(om ((k:Rat)*h)).cj)=-Cp.of ((om ((k:Rat)*h)).nsq-1)-(z k-om ((k:Rat)*h))*(om ((k:Rat)*h)).cj:=by
  rw[Cp.mul_sub,hw k hk,Cp.sub_mul,Cp.mul_cj]
  generalize (om ((k:Rat)*h)).nsq=N; generalize z k*(om ((k:Rat)*h)).cj=X; refine Cp.ext' ?_ ?_
  ·simp only[Cp.sub_re,Cp.neg_re,Cp.of_re,Cp.one_re];grind
  ·simp only[Cp.sub_im,Cp.neg_im,Cp.of_im,Cp.one_im];grind
 have t:=a.neg.sub b
 rw[← e]at t
 have zl:Ng (z k) (9999/10000):=by
  have ob:Ng (om ((k:Rat)*h)) (99999/100000):=by
   refine⟨by grind,?_⟩
   have g:=abs_le_iff.1 ol; generalize (om ((k:Rat)*h)).nsq=N at *
   generalize kP=e at *
   grind
  have:=ng_sub ob z1 (by grind)
  rw[show om ((k:Rat)*h)+(z k-om ((k:Rat)*h))=z k from Cp.ext' (by simp only[Cp.add_re,Cp.sub_re];grind) (by simp only[Cp.add_im,Cp.sub_im];grind)]at this
  exact this.mono (by grind) (by grind)
 refine ng_div zl (by grind) (t.mono ?_)
 clear a b e t zl; generalize kP=e at *
 have q:=Rat.mul_le_mul_of_nonneg_right k2 (Rat.le_of_lt ep); grind
theorem w_sup {k:Nat} (hk:k<n):Nm (w k) rhoP:=by
 refine((w_near hQ n1 n2 hh hz hw hk).near (om_k hQ n1 n2 hh (Nat.le_of_lt hk)).cj).mono ?_
 have k1:=kP_small.2
 have:=eps_pos
 unfold rhoP; generalize kP=e at *
 grind
theorem pts_w:Pts rhoP sigP n w where
 one:=rho_one
 half:=by have:=rho_in;grind
 big:=by have:=rho_pow (m:=128) (Nat.le_refl _);grind
 sig:=sig_nonneg
 at_:=fun k hk=>w_sup hQ n1 n2 hh hz hw hk
 sum:=fun m h1 h2=>near_sum hQ n1 n2 hh hz (o:=fun k=>(om ((k:Rat)*h)).cj) (fun k hk=>w_sup hQ n1 n2 hh hz hw hk) (fun k hk=>(om_k hQ n1 n2 hh (Nat.le_of_lt hk)).cj) (fun k hk=>w_near hQ n1 n2 hh hz hw hk) h1 h2 (by
  have:=(om_sum hQ n1 n2 hh h1 h2).cj
  rw[csm_cj]at this
  rw[csm_congr (g:=fun k=>((om ((k:Rat)*h)).pw m).cj) fun k _=>(Cp.cj_pw _ m).symm]
  exact this)
end
open Go.Vm Ieee
theorem rnd_q {x z B:Rat} (h:Rnd x z) (hx:x.abs≤B) (hB:(2:Rat)^(-1000:Int)≤B):(z-x).abs≤eps/4*B:=by
 have e:(2:Rat)^(-53:Int)=eps/4:=by
  have h6:=p2_half (-51); have h7:=p2_half (-52)
  rw[show (-51-1:Int)=-52 by decide]at h6
  rw[show (-52-1:Int)=-53 by decide]at h7
  unfold eps; grind
 have ep:=eps_pos; rcases h.near with h1|h1
 ·rw[e]at h1
  have:=Rat.mul_le_mul_of_nonneg_right hx (show 0≤eps/4 by grind)
  grind
 ·have h2:(2:Rat)^(-1075:Int)≤(2:Rat)^(-53:Int)*(2:Rat)^(-1000:Int):=by rw[← p2_add];exact p2_le (by decide)
  rw[e]at h2
  have:=Rat.mul_le_mul_of_nonneg_left hB (show 0≤eps/4 by grind)
  grind
theorem rnd2_q {x z B:Rat} (h:Rnd2 x z) (hx:x.abs≤B) (hB:(2:Rat)^(-1000:Int)≤B):(z-x).abs≤eps/2*B:=by
 have e:(2:Rat)^(-52:Int)=eps/2:=by
  have h6:=p2_half (-51)
  rw[show (-51-1:Int)=-52 by decide]at h6
  unfold eps; grind
 have ep:=eps_pos; rcases h.near with h1|h1
 ·rw[e]at h1
  have:=Rat.mul_le_mul_of_nonneg_right hx (show 0≤eps/2 by grind)
  grind
 ·have h2:(2:Rat)^(-1074:Int)≤(2:Rat)^(-52:Int)*(2:Rat)^(-1000:Int):=by rw[← p2_add];exact p2_le (by decide)
  rw[e]at h2
  have:=Rat.mul_le_mul_of_nonneg_left hB (show 0≤eps/2 by grind)
  grind
theorem pi_in:314159/100000≤piV∧piV≤314160/100000:=by rw[piV_eq];decide +kernel
theorem pi_circ {Q:Rat} (h:Circ Q):(2*piV-Q).abs≤56/100*eps:=by
 rw[h.eq,piV_eq,eps_eq]
 unfold qP; decide +kernel
theorem lt_22 {x:Rat} (h:x.abs≤1000000):x.abs<(2:Rat)^(1022:Int):=by
 have h6:=p2_le (show (50:Int)≤1022 by decide); have h8:(2:Rat)^(50:Int)=1125899906842624:=by rw[show (50:Int)=((50:Nat):Int) by rfl,p2_nat];rfl
 grind
theorem p1000_le:(2:Rat)^(-1000:Int)≤1/1000000:=Rat.le_trans (p2_le (show (-1000:Int)≤-20 by decide)) (by rw[p20m];decide +kernel)
theorem sum_err {y p x τ e:Rat} (e0:0<e) (a1:-(16/10*e)≤y-p∧y-p≤16/10*e) (a2:-(56/100*e)≤p-x∧p-x≤56/100*e) (a3:-(e/2*(629/100))≤τ-y∧τ-y≤e/2*(629/100)):(τ-x).abs≤54/10*e:=
 abs_le_iff.2 ⟨by grind,by grind⟩
theorem angle_end {Q h A:Rat} {n k a:Nat} (hQ:Circ Q) (n1:128≤n) (n2:n≤512) (hh:(n:Rat)*h=Q) (hk:k<n) (hA:Is a A) (h0:0≤A) (dA:(A-2*(k:Rat)*piV).abs≤eps/4*(2*(k:Rat)*piV)):
  ∃ t τ,Is t τ∧0≤τ∧τ≤64/10∧(τ-(k:Rat)*h).abs≤54/10*eps∧∀(R:Type) (K:Nat→Option R),(forceN (floatOfInt .f64 (n:Int)) fun b=>bindF (fbF .quo a b) K)=K t:=by
 have ep:=eps_pos; have et:=eps_tiny; have hn:Is (floatOfInt .f64 (n:Int)) (n:Int):=ofInt_is (by omega); have nc:(((n:Nat):Int):Rat)=(n:Rat):=by exact_mod_cast rfl
 rw[nc]at hn
 have n1':(128:Rat)≤(n:Rat):=by exact_mod_cast n1
 have n2':(n:Rat)≤512:=by exact_mod_cast n2
 have k0:(0:Rat)≤(k:Rat):=by exact_mod_cast Nat.zero_le k
 have kn:(k:Rat)≤(n:Rat):=by exact_mod_cast Nat.le_of_lt hk
 have pin:=pi_in; have pc:=pi_circ hQ; have ci:=circ_in hQ
 obtain⟨x,hx⟩:∃ x:Rat,(n:Rat)*x=(k:Rat):=⟨(k:Rat)/(n:Rat),by rw[Rat.div_def,Rat.mul_comm (k:Rat),← Rat.mul_assoc,Rat.mul_inv_cancel _ (by grind),Rat.one_mul]⟩
 have cancel:∀{u v:Rat},(n:Rat)*u=(n:Rat)*v→u=v:=fun{u v} e=>by
  have hne:(n:Rat)≠0:=by grind
  have:=congrArg (fun y=>(n:Rat)⁻¹*y) e
  simpa[← Rat.mul_assoc,Rat.inv_mul_cancel _ hne] using this
 have le_c:∀{u v:Rat},(n:Rat)*u≤(n:Rat)*v→u≤v:=fun{u v} e=>by
  refine Rat.not_lt.1 fun hl=>?_
  have:=Rat.mul_lt_mul_of_pos_left hl (show (0:Rat)<(n:Rat) by grind)
  grind
 have x0:0≤x:=le_c (by rw[hx];grind); have x1:x≤1:=le_c (by rw[hx];grind)
 obtain⟨y,hy⟩:∃ y:Rat,(n:Rat)*y=A:=⟨A/(n:Rat),by rw[Rat.div_def,Rat.mul_comm A,← Rat.mul_assoc,Rat.mul_inv_cancel _ (by grind),Rat.one_mul]⟩
 have y0:0≤y:=le_c (by rw[hy];grind); have hd:(y-2*piV*x).abs≤eps/4*(2*piV*x):=by
  have e1:A-2*(k:Rat)*piV=(n:Rat)*(y-2*piV*x):=by rw[← hx,← hy];grind
  have e2:eps/4*(2*(k:Rat)*piV)=(n:Rat)*(eps/4*(2*piV*x)):=by rw[← hx];grind
  rw[e1,e2,abs_mul,Rat.abs_of_nonneg (show (0:Rat)≤(n:Rat) by grind)]at dA
  exact le_c dA
 have px:2*piV*x≤628320/100000:=by
  have:=mul_mono' (show 2*piV≤628320/100000 by grind) x1 x0 (by decide +kernel)
  grind
 have px0:0≤2*piV*x:=Rat.mul_nonneg (by grind) x0; have hd2:(y-2*piV*x).abs≤16/10*eps:=by
  have:=Rat.mul_le_mul_of_nonneg_left px (show 0≤eps/4 by grind)
  grind
 have yb:y≤629/100:=by
  have:=abs_le_iff.1 hd2
  grind
 have hyd:A/(n:Rat)=y:=cancel (by rw[hy,Rat.div_def,Rat.mul_comm A,← Rat.mul_assoc,Rat.mul_inv_cancel _ (by grind),Rat.one_mul])
 obtain⟨t,τ,e,it,q⟩:=div_is hA hn (by grind) (by rw[hyd];exact lt_22 (by rw[Rat.abs_of_nonneg y0];grind))
 rw[hyd]at q
 have q1:=rnd2_q q (B:=629/100) (by rw[Rat.abs_of_nonneg y0];exact yb) (Rat.le_trans p1000_le (by decide +kernel)); have q2:=abs_le_iff.1 q1; have τ0:0≤τ:=by
  rcases Nat.eq_zero_or_pos k with h0|h0
  ·have kz:(k:Rat)=0:=by rw[h0];rfl
   have xz:x=0:=cancel (by rw[hx,kz,Rat.mul_zero])
   rw[xz]at hd
   have yz:y=0:=by
    have:=abs_le_iff.1 hd
    grind
   have:=q.rep 0 0 (by decide) (by decide) (by rw[yz];simp)
   rw[this,yz];exact Rat.le_refl
  ·have k1:(1:Rat)≤(k:Rat):=by exact_mod_cast h0
   have x2:1/512≤x:=by
    have:=Rat.mul_le_mul_of_nonneg_right n2' x0
    grind
   have p2:1/100≤2*piV*x:=by
    have:=mul_mono' (show (314159:Rat)/50000≤2*piV by grind) x2 (by decide +kernel) (by grind)
    grind
   have a1:=abs_le_iff.1 hd2; grind
 have hxh:(k:Rat)*h=x*Q:=by rw[← hx,← hh];grind
 have dx:(2*piV*x-x*Q).abs≤56/100*eps:=by
  have e1:2*piV*x-x*Q=x*(2*piV-Q):=by grind
  rw[e1,abs_mul,Rat.abs_of_nonneg x0]
  have:=mul_mono' x1 pc (abs_nonneg _) (by decide)
  grind
 refine⟨t,τ,it,τ0,by grind,?_,fun R K=>?_⟩
 ·rw[hxh]
  exact sum_err ep (abs_le_iff.1 hd2) (abs_le_iff.1 dx) q2
 ·rw[forceN_eq,bindF_eq e]
theorem rnd_rel {x z:Rat} (h:Rnd x z) (hx:x=0∨1≤x):(z-x).abs≤eps/4*x:=by
 rcases hx with h0|h1
 ·have:=rnd_zero' h h0
  rw[this,h0,show (0:Rat)-0=0 by grind,abs_zero]
  grind
 ·have:=rnd_q h (B:=x) (by rw[Rat.abs_of_nonneg (by grind)];exact Rat.le_refl) (Rat.le_trans p1000_le (Rat.le_trans (by decide +kernel) h1))
  exact this
section
variable {Q h:Rat} {n k:Nat} (hQ:Circ Q) (n1:128≤n) (n2:n≤512) (hh:(n:Rat)*h=Q) (hk:k<n)
include hQ n1 n2 hh hk
theorem k_is:Is (floatOfInt .f64 (k:Int)) (k:Rat):=by
 have:Is (floatOfInt .f64 (k:Int)) ((k:Int):Rat):=ofInt_is (by omega)
 have nc:(((k:Nat):Int):Rat)=(k:Rat):=by exact_mod_cast rfl
 rwa [nc]at this
theorem k_size:(k:Rat)=0∨1≤(k:Rat):=by
 rcases Nat.eq_zero_or_pos k with h0|h0
 ·left;rw[h0];rfl
 ·right;exact_mod_cast h0
theorem k_512:(k:Rat)≤512:=by exact_mod_cast (show k≤512 by omega)
theorem prod_size:2*(k:Rat)*piV=0∨1≤2*(k:Rat)*piV:=by
 have p:=pi_in; rcases k_size hQ n1 n2 hh hk with h0|h0
 ·left;rw[h0];grind
 ·right
  have:=mul_mono' (show (2:Rat)≤2*(k:Rat) by grind) (show (3:Rat)≤piV by grind) (by decide) (by grind)
  grind
theorem prod_big:(2*(k:Rat)*piV).abs≤1000000000000000:=by
 have p:=pi_in; have a:=k_512 hQ n1 n2 hh hk; have k0:(0:Rat)≤(k:Rat):=by exact_mod_cast Nat.zero_le k
 have:=mul_mono' (show 2*(k:Rat)≤1024 by grind) (show piV≤4 by grind) (by grind) (by decide)
 rw[Rat.abs_of_nonneg (Rat.mul_nonneg (by grind) (by grind))]
 grind
theorem prod_pos {A:Rat} (d:(A-2*(k:Rat)*piV).abs≤eps/4*(2*(k:Rat)*piV)):0≤A:=by
 have ep:=eps_pos; have et:=eps_tiny; have x0:0≤2*(k:Rat)*piV:=by rcases prod_size hQ n1 n2 hh hk with h|h<;>grind
 have b:=Rat.mul_le_mul_of_nonneg_right (show eps/4≤1 by grind) x0
 have:=abs_le_iff.1 d
 grind
theorem angleK:∃ t τ,Is t τ∧0≤τ∧τ≤64/10∧(τ-(k:Rat)*h).abs≤54/10*eps∧∀(R:Type) (K:Nat→Option R),
  (forceN (floatOfInt .f64 (k:Int)) fun a=>bindF (fbF .mul 4611686018427387904 a) fun a=>bindF (fbF .mul a 4614256656552045848) fun a=>forceN (floatOfInt .f64 (n:Int)) fun b=>bindF (fbF .quo a b) K)=K t:=by
 have hki:=k_is hQ n1 n2 hh hk; have k5:=k_512 hQ n1 n2 hh hk; have k0:(0:Rat)≤(k:Rat):=by exact_mod_cast Nat.zero_le k
 obtain⟨w1,W1,e1,i1,q1⟩:=mul_is is_two hki (lt_big (by rw[Rat.abs_of_nonneg (by grind)];grind))
 have v1:W1=2*(k:Rat):=q1.rep (k:Int) 1 (by omega) (by decide) (by
  have nc:(((k:Nat):Int):Rat)=(k:Rat):=by exact_mod_cast rfl
  rw[nc,show (1:Int)=((1:Nat):Int) by rfl,p2_nat];grind)
 subst v1
 obtain⟨w2,W2,e2,i2,q2⟩:=mul_is i1 is_pi (lt_big (prod_big hQ n1 n2 hh hk))
 have d:=rnd_rel q2 (prod_size hQ n1 n2 hh hk)
 obtain⟨t,τ,h1,h2,h3,h4,h5⟩:=angle_end hQ n1 n2 hh hk i2 (prod_pos hQ n1 n2 hh hk d) d
 exact⟨t,τ,h1,h2,h3,h4,fun R K=>by rw[forceN_eq,bindF_eq e1,bindF_eq e2,h5]⟩
theorem angleM:∃ t τ,Is t τ∧0≤τ∧τ≤64/10∧(τ-(k:Rat)*h).abs≤54/10*eps∧∀(R:Type) (K:Nat→Option R),
  (forceN (floatOfInt .f64 (k:Int)) fun a=>bindF (fbF .mul 4618760256179416344 a) fun a=>forceN (floatOfInt .f64 (n:Int)) fun b=>bindF (fbF .quo a b) K)=K t:=by
 have hki:=k_is hQ n1 n2 hh hk; have e0:pi2V*(k:Rat)=2*(k:Rat)*piV:=by unfold pi2V;grind
 obtain⟨w2,W2,e2,i2,q2⟩:=mul_is is_pi2 hki (lt_big (by rw[e0];exact prod_big hQ n1 n2 hh hk))
 rw[e0]at q2
 have d:=rnd_rel q2 (prod_size hQ n1 n2 hh hk)
 obtain⟨t,τ,h1,h2,h3,h4,h5⟩:=angle_end hQ n1 n2 hh hk i2 (prod_pos hQ n1 n2 hh hk d) d
 exact⟨t,τ,h1,h2,h3,h4,fun R K=>by rw[forceN_eq,bindF_eq e2,h5]⟩
theorem om_near {τ:Rat} (d:(τ-(k:Rat)*h).abs≤54/10*eps):Nm (om τ-om ((k:Rat)*h)) (542/100*eps):=by
 have ep:=eps_pos; have et:=eps_tiny; have kt:=kp_tiny; have k0:=kp0; have kb:=(kh_abs hQ n1 n2 hh (Nat.le_of_lt hk)).1; generalize (k:Rat)*h=x at *
 obtain⟨δ,rfl⟩:∃ δ,τ=x+δ:=⟨τ-x,by grind⟩
 rw[show x+δ-x=δ by grind]at d
 have s:=small_turn (d:=δ) (by grind); have a1:=om_add (x:=x) (y:=δ) (by grind); have a2:Nm (om δ-Cp.one) (1002/1000*(54/10*eps)):=by
  have p1:(om δ-Cp.one).re.abs≤1/1000*(54/10*eps):=by
   show (csN δ-1).abs≤_; grind
  have p2:(om δ-Cp.one).im.abs≤1001/1000*(54/10*eps):=by
   show (snN δ-0).abs≤_
   have:=abs_add_le (snN δ-δ) δ
   rw[show snN δ-δ+δ=snN δ-0 by grind]at this
   grind
  exact(nm_parts p1 p2).mono (by grind)
 have a3:=om_bd (x:=x) (by grind); have e:om (x+δ)-om x=(om (x+δ)-om x*om δ)+om x*(om δ-Cp.one):=by
  rw[Cp.mul_sub,Cp.mul_one]
  exact Cp.ext' (by simp only[Cp.add_re,Cp.sub_re];grind) (by simp only[Cp.add_im,Cp.sub_im];grind)
 rw[e]
 refine(a1.add (a3.mul a2)).mono ?_
 have kk:kP≤1/1000*eps:=by
  rw[eps_eq]
  exact Rat.le_trans kt (by decide +kernel)
 have:=Rat.mul_le_mul_of_nonneg_right (show 1+6*kP≤10001/10000 by grind) (show 0≤1002/1000*(54/10*eps) by grind)
 grind
theorem place_near {r t:Nat} {R τ:Rat} (hr:Is r R) (R1:1≤R) (R2:R≤100000) (ht:Is t τ) (t0:0≤τ) (t1:τ≤64/10) (d:(τ-(k:Rat)*h).abs≤54/10*eps):
  ∃ x y D,IsZ x y D∧Nm (Cp.of R⁻¹*D-om ((k:Rat)*h)) (16*eps)∧∀(T:Type) (K:Nat→Nat→Option T),(turnK T t fun s c=>bindF (fbF .mul r c) fun x=>bindF (fbF .mul r s) fun y=>K x y)=K x y:=by
 have ep:=eps_pos; have et:=eps_tiny
 obtain⟨s,c,S,C,iS,iC,dS,dC,hK⟩:=turnK_near ht t0 t1
 have no:=om_near hQ n1 n2 hh hk d; have nk:=om_k hQ n1 n2 hh (Nat.le_of_lt hk); have kt:=kp_tiny; have k0:=kp0; have nτ:Nm (om τ) (1001/1000):=(no.near nk).mono (by grind); have bC:C.abs≤1002/1000:=by
  have h1:=nτ.re
  have:=abs_add_le (C-csN τ) (csN τ)
  rw[show C-csN τ+csN τ=C by grind]at this
  have:(om τ).re=csN τ:=rfl
  grind
 have bS:S.abs≤1002/1000:=by
  have h1:=nτ.im
  have:=abs_add_le (S-snN τ) (snN τ)
  rw[show S-snN τ+snN τ=S by grind]at this
  have:(om τ).im=snN τ:=rfl
  grind
 have aR:R.abs=R:=Rat.abs_of_nonneg (by grind); have bRC:(R*C).abs≤1002/1000*R:=by rw[abs_mul,aR];have:=Rat.mul_le_mul_of_nonneg_left bC (show 0≤R by grind);grind
 have bRS:(R*S).abs≤1002/1000*R:=by rw[abs_mul,aR];have:=Rat.mul_le_mul_of_nonneg_left bS (show 0≤R by grind);grind
 obtain⟨x,X,e1,i1,q1⟩:=mul_is hr iC (lt_big (by grind))
 obtain⟨y,Y,e2,i2,q2⟩:=mul_is hr iS (lt_big (by grind))
 have hB:(2:Rat)^(-1000:Int)≤1002/1000*R:=Rat.le_trans p1000_le (by grind); have r1:=rnd_q q1 bRC hB; have r2:=rnd_q q2 bRS hB
 refine⟨x,y,⟨X,Y⟩,⟨i1,i2⟩,?_,fun T K=>by rw[hK,bindF_eq e1,bindF_eq e2]⟩
 have inv0:0≤R⁻¹:=Rat.le_of_lt (Rat.inv_pos.2 (by grind)); have ri:R⁻¹*R=1:=Rat.inv_mul_cancel _ (by grind); have part:∀{X C:Rat},(X-R*C).abs≤eps/4*(1002/1000*R)→(R⁻¹*X-C).abs≤eps/4*(1002/1000):=fun{X C} g=>by
  have e:R⁻¹*X-C=R⁻¹*(X-R*C):=by
   have:R⁻¹*(X-R*C)=R⁻¹*X-R⁻¹*R*C:=by grind
   rw[this,ri];grind
  rw[e,abs_mul,Rat.abs_of_nonneg inv0]
  have:=Rat.mul_le_mul_of_nonneg_left g inv0
  have e2:R⁻¹*(eps/4*(1002/1000*R))=R⁻¹*R*(eps/4*(1002/1000)):=by grind
  rw[e2,ri]at this
  grind
 have p1:=part r1; have p2:=part r2; have g1:Nm (Cp.of R⁻¹*⟨X,Y⟩-⟨C,S⟩) (3/2*(eps/4*(1002/1000))):=by
  rw[Cp.of_mul]
  exact nm_root (a:=⟨R⁻¹*X,R⁻¹*Y⟩-⟨C,S⟩) (by show (R⁻¹*X-C).abs≤_;exact p1) (by show (R⁻¹*Y-S).abs≤_;exact p2)
 have g2:Nm ((⟨C,S⟩:Cp)-om τ) (3/2*(6*eps)):=nm_root (by show (C-csN τ).abs≤_;exact dC) (by show (S-snN τ).abs≤_;exact dS)
 exact((g1.tri g2).tri no).mono (by grind)
end
inductive Sd where
 |inn (b:Cp) (qb:Rat) (q:Nat)
 |out (L:List Fc)
namespace Sd
def at_ (s:Sd) (z w:Cp):Cp:=match s with
 |.inn b qb q=>inV b qb q w
 |.out L=>prodF L z
def W (s:Sd):Rat:=match s with
 |.inn b qb q=>wL (repF b qb q)
 |.out L=>wL L
def Ok (ρ:Rat) (s:Sd):Prop:=match s with
 |.inn b qb q=>(Fc.geo b qb).Ok ρ∧1≤q∧q≤9
 |.out L=>OkL ρ L∧cntL L≤18∧kapL L≤(9/4)^9
def intG (s:Sd):Cp:=match s with
 |.inn b qb q=>Fv b [] q
 |.out L=>Cp.zero
def pairG (s t:Sd):Cp:=match s,t with
 |.inn b qb q,.out L=>Fv b L q
 |.out L,.inn b qb q=>Fv b L q
 |.inn _ _ _,.inn _ _ _=>Cp.zero
 |.out _,.out _=>Cp.zero
end Sd
theorem prodF_app (x:Cp):∀ L M:List Fc,prodF (L++M) x=prodF L x*prodF M x
 |[],M=>by show prodF M x=Cp.one*prodF M x;rw[Cp.one_mul]
 |f::L,M=>by show f.at x*prodF (L++M) x=f.at x*prodF L x*prodF M x;rw[prodF_app x L M,Cp.mul_assoc]
theorem wL_app:∀ L M:List Fc,wL (L++M)=wL L*wL M
 |[],M=>by show wL M=1*wL M;rw[Rat.one_mul]
 |f::L,M=>by show f.w*wL (L++M)=f.w*wL L*wL M;rw[wL_app L M,Rat.mul_assoc]
theorem cntL_app:∀ L M:List Fc,cntL (L++M)=cntL L+cntL M
 |[],M=>by show cntL M=0+cntL M;omega
 |f::L,M=>by show f.cnt+cntL (L++M)=f.cnt+cntL L+cntL M;rw[cntL_app L M];omega
theorem kapL_app:∀ L M:List Fc,kapL (L++M)=kapL L*kapL M
 |[],M=>by show kapL M=1*kapL M;rw[Rat.one_mul]
 |f::L,M=>by show f.kap*kapL (L++M)=f.kap*kapL L*kapL M;rw[kapL_app L M,Rat.mul_assoc]
theorem okL_app {ρ:Rat} {L M:List Fc} (h:OkL ρ L) (g:OkL ρ M):OkL ρ (L++M):=fun f hf=>by
 rcases List.mem_append.1 hf with h1|h1
 ·exact h f h1
 ·exact g f h1
theorem th_mono {m j:Nat} (h:m≤j):th m≤th j:=by
 obtain⟨d,rfl⟩:∃ d,j=m+d:=⟨j-m,by omega⟩
 clear h; induction d with
 |zero=>exact Rat.le_refl
 |succ d ih=>
  rw[← Nat.add_assoc,th_succ]
  have:=th_nonneg (m+d)
  grind
def EE:Rat:=3/4398046511104
theorem EE_pos:0≤EE:=by unfold EE;decide +kernel
theorem EE_le:EE≤1/1000000000000:=by unfold EE;decide +kernel
theorem kap_tiny:2*(((9:Rat)/4)^18*th 17)≤1/4398046511104:=by unfold th;decide +kernel
theorem eps_lit:eps=1/2251799813685248:=by rw[eps_eq]
theorem sig_lit:sigP*53≤2/4398046511104:=by unfold sigP;rw[eps_lit];decide +kernel
theorem eL_le {m:Nat} {L:List Fc} (hm:m≤17) (hc:m+cntL L≤53) (hk:kapL L≤(9/4)^18):eL sigP m L≤EE:=by
 unfold eL; have h1:((m+cntL L:Nat):Rat)≤((53:Nat):Rat):=Rat.natCast_le_natCast.2 hc; have h2:=Rat.mul_le_mul_of_nonneg_left h1 sig_nonneg; have h3:((53:Nat):Rat)=53:=rfl; have h4:=sig_lit; have h5:=kap_tiny; have h6:=mul_mono' hk (th_mono hm) (th_nonneg m) (show (0:Rat)≤(9/4)^18 by decide +kernel)
 rw[h3]at h2
 unfold EE
 rw[Rat.mul_assoc 2 (kapL L) (th m)]
 generalize sigP*((m+cntL L:Nat):Rat)=A at *
 generalize sigP*53=B at *
 generalize kapL L*th m=C at *
 generalize ((9:Rat)/4)^18*th 17=D at *
 grind
def E1:Rat:=1/5000000000000
theorem kap_tiny1:2*(((9:Rat)/4)^9*th 8)≤1/1000000000000000:=by unfold th;decide +kernel
theorem sig_lit1:sigP*26≤1/5000000000000-1/1000000000000000:=by unfold sigP;rw[eps_lit];decide +kernel
theorem eL_le1 {m:Nat} {L:List Fc} (hm:m≤8) (hc:m+cntL L≤26) (hk:kapL L≤(9/4)^9):eL sigP m L≤E1:=by
 unfold eL; have h1:((m+cntL L:Nat):Rat)≤((26:Nat):Rat):=Rat.natCast_le_natCast.2 hc; have h2:=Rat.mul_le_mul_of_nonneg_left h1 sig_nonneg; have h3:((26:Nat):Rat)=26:=rfl; have h4:=sig_lit1; have h5:=kap_tiny1; have h6:=mul_mono' hk (th_mono hm) (th_nonneg m) (show (0:Rat)≤(9/4)^9 by decide +kernel)
 rw[h3]at h2
 unfold E1
 rw[Rat.mul_assoc 2 (kapL L) (th m)]
 generalize sigP*((m+cntL L:Nat):Rat)=A at *
 generalize sigP*26=B at *
 generalize kapL L*th m=C at *
 generalize ((9:Rat)/4)^9*th 8=D at *
 grind
section
variable {n:Nat} {z w:Nat→Cp} (hz:Pts rhoP sigP n z) (hw:Pts rhoP sigP n w) (hzw:∀ k,k<n→z k*w k=Cp.one) (hn:0<n)
include hz hw hzw hn
theorem inn_w {b:Cp} {qb:Rat} {q:Nat} (h1:1≤q) {k:Nat} (hk:k<n) (X:Cp):z k*(inV b qb q (w k)*X)=(w k).pw (q-1)*(prodF (repF b qb q) (w k)*X):=by
 obtain⟨p,rfl⟩:∃ p,q=p+1:=⟨q-1,by omega⟩
 unfold inV
 rw[repF_prod,show p+1-1=p by omega]
 simp only[Cp.pw]
 generalize hA:(Fc.geo b qb).at (w k)=A; have e:=hzw k hk
 rw[Cp.mul_assoc ((w k).pw p*w k) (A.pw p*A) X,Cp.mul_assoc ((w k).pw p) (w k),Cp.mul_left_comm ((w k).pw p) (w k),← Cp.mul_assoc (z k) (w k),e,Cp.one_mul]
theorem E_in {q:Nat} (h1:1≤q) (h9:q≤9) {b:Cp} {qb:Rat}:eL sigP (if q=1 then 1 else q-1) (repF b qb q)≤EE:=by
 have k9:kapL (repF b qb q)≤(9/4)^18:=by rw[repF_kap];exact pow_le_pow (by decide +kernel) (by omega)
 refine eL_le ?_ ?_ k9
 ·split<;>omega
 ·rw[repF_cnt];split<;>omega
theorem E_out {L M:List Fc} (hc:cntL L≤18) (hk:kapL L≤(9/4)^9) (hM:M <:+ L):eL sigP 1 M≤EE:=by
 obtain⟨A,rfl⟩:=hM
 rw[cntL_app]at hc
 rw[kapL_app]at hk
 refine eL_le (by omega) (by omega) ?_
 have a:=kap_pos A; have m:=kap_pos M
 have:=Rat.mul_le_mul_of_nonneg_right a (Rat.le_trans (show (0:Rat)≤1 by decide) m)
 have p:((9:Rat)/4)^9≤(9/4)^18:=pow_le_pow (by decide +kernel) (by decide)
 rw[Rat.one_mul]at this
 exact Rat.le_trans this (Rat.le_trans hk p)
theorem w_mono {A B n:Rat} (hn:0≤n) (hW:0≤A) (h:B≤EE):n*(A*B)≤n*(A*EE):=Rat.mul_le_mul_of_nonneg_left (Rat.mul_le_mul_of_nonneg_left h hW) hn
theorem pair_sum {s t:Sd} (hs:s.Ok rhoP) (ht:t.Ok rhoP):Nm (csm (fun k=>z k*(s.at_ (z k) (w k)*t.at_ (z k) (w k))) n-Cp.of (n:Rat)*s.pairG t) ((n:Rat)*(s.W*t.W*EE)):=by
 have n0:(0:Rat)≤(n:Rat):=by exact_mod_cast Nat.zero_le n
 have sub0:∀ x:Cp,x-Cp.of (n:Rat)*Cp.zero=x:=fun x=>by
  rw[Cp.mul_zero]
  exact Cp.ext' (by simp only[Cp.sub_re,Cp.zero_re];grind) (by simp only[Cp.sub_im,Cp.zero_im];grind)
 cases s with
 |inn b qb q=>
  obtain⟨s1,s2,s3⟩:=hs
  cases t with
  |inn b' qb' q'=>
   obtain⟨t1,t2,t3⟩:=ht
   show Nm (_-Cp.of (n:Rat)*Cp.zero) _
   rw[sub0]
   have hL:=okL_app (repF_ok s1 q) (repF_ok t1 q'); have h:=prod_sum hw hn _ hL (q+q'-1) (by omega); have e:csm (fun k=>z k*(inV b qb q (w k)*inV b' qb' q' (w k))) n=csm (fun k=>(w k).pw (q+q'-1)*prodF (repF b qb q++repF b' qb' q') (w k)) n:=csm_congr fun k hk=>by
    rw[inn_w hz hw hzw hn s2 hk]
    unfold inV
    rw[prodF_app,repF_prod b' qb',show q+q'-1=(q-1)+q' by omega,Cp.pw_add]
    simp only[Cp.mul_assoc]
    congr 1
    rw[Cp.mul_left_comm]
   show Nm (csm (fun k=>z k*(inV b qb q (w k)*inV b' qb' q' (w k))) n) _
   rw[e]
   refine h.mono ?_
   rw[wL_app]
   have ws:=(prod_sup hw.one (repF_ok s1 q) (hw.at_ 0 hn)).2; have wt:=(prod_sup hw.one (repF_ok t1 q') (hw.at_ 0 hn)).2; refine w_mono hz hw hzw hn n0 (Rat.mul_nonneg (Rat.le_trans (by decide) ws) (Rat.le_trans (by decide) wt)) (eL_le (by omega) ?_ ?_)
   ·rw[cntL_app,repF_cnt,repF_cnt];omega
   ·rw[kapL_app,repF_kap,repF_kap,← pow_add]
    exact pow_le_pow (by decide +kernel) (by omega)
  |out L=>
   obtain⟨t1,t2,t3⟩:=ht
   exact pole_sum hz hw hzw hn s1 (fun q a b=>E_in hz hw hzw hn a b) L t1 (fun M hM=>E_out hz hw hzw hn t2 t3 hM) q s3
 |out L=>
  obtain⟨s1,s2,s3⟩:=hs
  cases t with
  |inn b' qb' q'=>
   obtain⟨t1,t2,t3⟩:=ht
   have h:=pole_sum hz hw hzw hn t1 (fun q a b=>E_in hz hw hzw hn a b) L s1 (fun M hM=>E_out hz hw hzw hn s2 s3 hM) q' t3; have e:csm (fun k=>z k*(prodF L (z k)*inV b' qb' q' (w k))) n=csm (fun k=>z k*(inV b' qb' q' (w k)*prodF L (z k))) n:=csm_congr fun k hk=>by rw[Cp.mul_comm (prodF L (z k))]
   show Nm (csm (fun k=>z k*(prodF L (z k)*inV b' qb' q' (w k))) n-Cp.of (n:Rat)*Fv b' L q') ((n:Rat)*(wL L*wL (repF b' qb' q')*EE))
   rw[e,Rat.mul_comm (wL L)]
   exact h
  |out M=>
   obtain⟨t1,t2,t3⟩:=ht
   show Nm (_-Cp.of (n:Rat)*Cp.zero) _
   rw[sub0]
   have h:=prod_sum hz hn _ (okL_app s1 t1) 1 (Nat.le_refl 1); have e:csm (fun k=>z k*(prodF L (z k)*prodF M (z k))) n=csm (fun k=>(z k).pw 1*prodF (L++M) (z k)) n:=csm_congr fun k hk=>by rw[prodF_app,Cp.pw_one]
   show Nm (csm (fun k=>z k*(prodF L (z k)*prodF M (z k))) n) _
   rw[e]
   refine h.mono ?_
   rw[wL_app]
   have ws:=(prod_sup hz.one s1 (hz.at_ 0 hn)).2; have wt:=(prod_sup hz.one t1 (hz.at_ 0 hn)).2; refine w_mono hz hw hzw hn n0 (Rat.mul_nonneg (Rat.le_trans (by decide) ws) (Rat.le_trans (by decide) wt)) (eL_le (by omega) ?_ ?_)
   ·rw[cntL_app];omega
   ·rw[kapL_app]
    refine Rat.le_trans (mul_mono' s3 t3 (Rat.le_trans (by decide) (kap_pos M)) (by decide +kernel)) ?_
    rw[← pow_add]
    exact Rat.le_refl
theorem int_sum {s:Sd} (hs:s.Ok rhoP):Nm (csm (fun k=>z k*s.at_ (z k) (w k)) n-Cp.of (n:Rat)*s.intG) ((n:Rat)*(s.W*E1)):=by
 have n0:(0:Rat)≤(n:Rat):=by exact_mod_cast Nat.zero_le n
 cases s with
 |inn b qb q=>
  obtain⟨s1,s2,s3⟩:=hs
  have h:=pole_sum hz hw hzw hn (E:=E1) s1 (fun q ha hb=>by
   have k9:kapL (repF b qb q)≤(9/4)^9:=by rw[repF_kap];exact pow_le_pow (by decide +kernel) (by omega)
   refine eL_le1 ?_ ?_ k9
   ·split<;>omega
   ·rw[repF_cnt];split<;>omega) [] (fun f hf=>by simp at hf) (fun M hM=>by
   rw[List.suffix_nil.1 hM]
   exact eL_le1 (by omega) (by show 1+0≤26;omega) (by show (1:Rat)≤_;decide +kernel)) q s3
  have e:csm (fun k=>z k*(inV b qb q (w k)*prodF [] (z k))) n=csm (fun k=>z k*inV b qb q (w k)) n:=csm_congr fun k hk=>by
   show z k*(inV b qb q (w k)*Cp.one)=_
   rw[Cp.mul_one]
  rw[e]at h
  have eW:wL ([]:List Fc)=1:=rfl
  rw[eW,Rat.mul_one]at h
  exact h
 |out L=>
  obtain⟨s1,s2,s3⟩:=hs
  have h:=prod_sum hz hn L s1 1 (Nat.le_refl 1); have e:csm (fun k=>(z k).pw 1*prodF L (z k)) n=csm (fun k=>z k*prodF L (z k)) n:=csm_congr fun k hk=>by rw[Cp.pw_one]
  rw[e]at h
  show Nm (csm (fun k=>z k*prodF L (z k)) n-Cp.of (n:Rat)*Cp.zero) ((n:Rat)*(wL L*E1))
  rw[Cp.mul_zero,show csm (fun k=>z k*prodF L (z k)) n-Cp.zero=csm (fun k=>z k*prodF L (z k)) n from Cp.ext' (by simp only[Cp.sub_re,Cp.zero_re];grind) (by simp only[Cp.sub_im,Cp.zero_im];grind)]
  exact h.mono (Rat.mul_le_mul_of_nonneg_left (Rat.mul_le_mul_of_nonneg_left (eL_le1 (by omega) (by omega) s3) (Rat.le_trans (by decide) (prod_sup hz.one s1 (hz.at_ 0 hn)).2)) n0)
end
end Go.Vx
