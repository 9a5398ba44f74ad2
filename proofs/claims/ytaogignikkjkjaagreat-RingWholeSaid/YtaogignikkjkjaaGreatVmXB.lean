/- A part of the evaluator and of what is told of floats; no conditions. -/
import Derived.Test.YtaogignikkjkjaaGreatVmX2
import Derived.Test.YtaogignikkjkjaaGreatVmX1
set_option linter.unusedSectionVars false
set_option linter.unusedSimpArgs false
set_option linter.unusedVariables false
set_option maxRecDepth 1000000
namespace Go.Vx
open Go.Vm
def rsm (f:Nat→Rat):Nat→Rat
 |0=>0
 |n+1=>rsm f n+f n
theorem rsm_mono {f g:Nat→Rat}:∀{n:Nat},(∀ k,k<n→f k≤g k)→rsm f n≤rsm g n
 |0,_=>Rat.le_refl
 |n+1,h=>by
  have a:=rsm_mono (n:=n) fun k hk=>h k (by omega)
  have b:=h n (by omega); show rsm f n+f n≤rsm g n+g n; grind
theorem rsm_add (f g:Nat→Rat):∀ n,rsm (fun k=>f k+g k) n=rsm f n+rsm g n
 |0=>by show (0:Rat)=0+0;grind
 |n+1=>by
  show rsm (fun k=>f k+g k) n+(f n+g n)=rsm f n+f n+(rsm g n+g n)
  rw[rsm_add f g n];grind
theorem rsm_mul (c:Rat) (f:Nat→Rat):∀ n,rsm (fun k=>c*f k) n=c*rsm f n
 |0=>by show (0:Rat)=c*0;grind
 |n+1=>by
  show rsm (fun k=>c*f k) n+c*f n=c*(rsm f n+f n)
  rw[rsm_mul c f n];grind
theorem rsm_const (c:Rat):∀ n:Nat,rsm (fun _=>c) n=(n:Rat)*c
 |0=>by show (0:Rat)=((0:Nat):Rat)*c;rw[show ((0:Nat):Rat)=0 from rfl];grind
 |n+1=>by
  show rsm (fun _=>c) n+c=_
  rw[rsm_const c n];push_cast;grind
theorem rsm_nonneg {f:Nat→Rat} {n:Nat} (h:∀ k,k<n→0≤f k):0≤rsm f n:=by
 have:=rsm_mono (f:=fun _=>0) h
 rw[rsm_const]at this
 grind
theorem nm_csm_rsm {f:Nat→Cp} {r:Nat→Rat}:∀{n:Nat},(∀ k,k<n→Nm (f k) (r k))→Nm (csm f n) (rsm r n)
 |0,_=>nm_zero
 |n+1,h=>(nm_csm_rsm (n:=n) fun k hk=>h k (by omega)).add (h n (by omega))
theorem rsm_low {f:Nat→Rat} {c:Rat}:∀{n:Nat},0<n→rsm f n≤(n:Rat)*c→∃ k,k<n∧f k≤c:=fun{n} hn h=>by
 refine Classical.byContradiction fun hno=>?_
 have hall:∀ k,k<n→c<f k:=fun k hk=>Rat.not_le.1 fun hl=>hno ⟨k,hk,hl⟩
 have key:∀ j,j≤n→0<j→(j:Rat)*c<rsm f j:=by
  intro j; induction j with
  |zero=>intro _ h0;omega
  |succ j ih=>
   intro hj _; have b:=hall j (by omega); show ((j+1:Nat):Rat)*c<rsm f j+f j; rcases Nat.eq_zero_or_pos j with h0|h0
   ·subst h0; show ((0+1:Nat):Rat)*c<0+f 0
    rw[show ((0+1:Nat):Rat)=1 from rfl]
    grind
   ·have:=ih (by omega) h0
    push_cast; grind
 have:=key n (Nat.le_refl n) hn
 grind
def dE:Rat:=7/100000000000
theorem dE_pos:0≤dE:=by unfold dE;decide +kernel
theorem dE_le:dE≤1/10000000000:=by unfold dE;decide +kernel
structure Elw (n:Nat) (z w:Nat→Cp) (s:Sd) (κ:Cp) (V:Nat→Cp) (l:Nat→Rat) (m:Rat):Prop where
 len:∀ k,k<n→Nm (V k) (l k)
 sum:rsm l n=(n:Rat)*m
 err:∀ k,k<n→Nm (V k-κ*s.at_ (z k) (w k)) (dE*(l k+m))
section
variable {n:Nat} {z w:Nat→Cp} {s:Sd} {κ:Cp} {V:Nat→Cp} {l:Nat→Rat} {m:Rat}
theorem Elw.m0 (h:Elw n z w s κ V l m) (hn:0<n):0≤m:=by
 have h1:=rsm_nonneg (f:=l) (n:=n) fun k hk=>(h.len k hk).1
 rw[h.sum]at h1
 have n0:(0:Rat)<(n:Rat):=by exact_mod_cast hn
 refine Rat.not_lt.1 fun hl=>?_
 have:=Rat.mul_lt_mul_of_pos_left hl n0
 grind
theorem Elw.phi (h:Elw n z w s κ V l m) {k:Nat} (hk:k<n):Nm (κ*s.at_ (z k) (w k)) (l k+dE*(l k+m)):=by
 have:=(h.len k hk).sub (h.err k hk)
 have e:V k-(V k-κ*s.at_ (z k) (w k))=κ*s.at_ (z k) (w k):=Cp.ext' (by simp only[Cp.sub_re];grind) (by simp only[Cp.sub_im];grind)
 rwa [e]at this
theorem Elw.size (h:Elw n z w s κ V l m) (hn:0<n) {f:Nat→Cp} {g:Rat} (hf:∀ k,k<n→Nm (f k) (1+1/100000)) (g0:0<g) (hg:Ng (csm (fun k=>f k*s.at_ (z k) (w k)) n) ((n:Rat)*g)):Nm κ (1001/1000*m/g):=by
 have m0:=h.m0 hn; have n0:(0:Rat)<(n:Rat):=by exact_mod_cast hn
 refine ng_div hg (Rat.mul_pos n0 g0) ?_
 have e:csm (fun k=>f k*s.at_ (z k) (w k)) n*κ=csm (fun k=>f k*(κ*s.at_ (z k) (w k))) n:=by
  rw[Cp.mul_comm,← csm_mul]
  exact csm_congr fun k _=>by rw[Cp.mul_left_comm]
 rw[e]
 have h1:=nm_csm_rsm (n:=n) (f:=fun k=>f k*(κ*s.at_ (z k) (w k))) (r:=fun k=>(1+1/100000)*(l k+dE*(l k+m))) fun k hk=>(hf k hk).mul (h.phi hk)
 refine h1.mono ?_
 rw[rsm_mul,rsm_add,rsm_mul,rsm_add,rsm_const,h.sum]
 have e2:(n:Rat)*g*(1001/1000*m/g)=(n:Rat)*m*(1001/1000):=by
  have:g*(1001/1000*m/g)=1001/1000*m:=by
   rw[Rat.div_def,Rat.mul_comm,Rat.mul_assoc,Rat.inv_mul_cancel _ (by grind),Rat.mul_one]
  rw[Rat.mul_assoc,this];grind
 rw[e2]
 have nm0:=Rat.mul_nonneg (Rat.le_of_lt n0) m0; have d:=Rat.mul_le_mul_of_nonneg_right dE_le nm0; generalize (n:Rat)*m=N at *
 grind
end
def repL (a:Cp) (c:Rat):Nat→List Fc
 |0=>[]
 |k+1=>.lin a c::repL a c k
def qB:Rat:=508/1000
inductive Side:Sd→Prop where
 |inn (b:Cp) (q:Nat) (h:(Fc.geo b qB).Ok rhoP) (h1:1≤q) (h9:q≤9):Side (.inn b qB q)
 |out (b:Cp) (q:Nat) (h:(Fc.geo b qB).Ok rhoP) (h9:q≤9):Side (.out (repF b qB q))
 |lin (a:Cp) (r:Rat) (k:Nat) (h:r=a.re.abs+a.im.abs) (h3:k≤3):Side (.out (repL a (r+1/1000) k))
theorem repL_cnt (a:Cp) (c:Rat):∀ k,cntL (repL a c k)=k
 |0=>rfl
 |k+1=>by show 1+cntL (repL a c k)=_;rw[repL_cnt a c k];omega
theorem repL_kap (a:Cp) (c:Rat):∀ k,kapL (repL a c k)=(3/2)^k
 |0=>by rw[Rat.pow_zero];rfl
 |k+1=>by rw[Rat.pow_succ,← repL_kap a c k,Rat.mul_comm];rfl
theorem repL_w (a:Cp) (c:Rat):∀ k,wL (repL a c k)=(1+c)^k
 |0=>by rw[Rat.pow_zero];rfl
 |k+1=>by rw[Rat.pow_succ,← repL_w a c k,Rat.mul_comm];rfl
theorem repL_prod (a:Cp) (c:Rat) (x:Cp):∀ k,prodF (repL a c k) x=(x-a).pw k
 |0=>rfl
 |k+1=>by
  show (x-a)*prodF (repL a c k) x=(x-a).pw k*(x-a)
  rw[repL_prod a c x k,Cp.mul_comm]
theorem repL_ok {a:Cp} {r c:Rat} (hr:Nm a r) (hc:r+(rhoP-1)≤c):∀ k,OkL rhoP (repL a c k)
 |0=>fun f hf=>by simp[repL]at hf
 |k+1=>fun f hf=>by
  rcases List.mem_cons.1 hf with rfl|hf
  ·exact⟨r,hr,hc⟩
  ·exact repL_ok hr hc k f hf
theorem nm_abs (a:Cp):Nm a (a.re.abs+a.im.abs):=nm_parts Rat.le_refl Rat.le_refl
theorem lin_c (a:Cp):a.re.abs+a.im.abs+(rhoP-1)≤a.re.abs+a.im.abs+1/1000:=by have:=rho_in;grind
theorem Side.ok {s:Sd} (h:Side s):s.Ok rhoP:=by
 cases h with
 |inn b q h h1 h9=>exact⟨h,h1,h9⟩
 |out b q h h9=>exact⟨repF_ok h q,by rw[repF_cnt];omega,by rw[repF_kap];exact pow_le_pow (by decide +kernel) h9⟩
 |lin a r k hr h3=>
  subst hr
  refine⟨repL_ok (nm_abs a) (lin_c a) k,by rw[repL_cnt];omega,?_⟩
  rw[repL_kap]
  exact Rat.le_trans (pow_le_pow (by decide +kernel) h3) (by decide +kernel)
theorem geo_w {q:Nat} (h:q≤9):((1-qB)⁻¹)^q≤593:=Rat.le_trans (pow_le_pow (by unfold qB;decide +kernel) h) (by unfold qB;decide +kernel)
theorem geo_w0 (q:Nat):0≤((1-qB)⁻¹)^q:=Rat.pow_nonneg (by unfold qB;decide +kernel)
theorem near_n {x:Cp} {n w E:Rat} (n0:0≤n) (h:Nm (x-Cp.of n) (n*(w*E))) (hw:w*E≤1/1000):Ng x (n*(999/1000)):=by
 have a:Ng (Cp.of n) n:=⟨n0,by unfold Cp.nsq;simp only[Cp.of_re,Cp.of_im];grind⟩; have hm:=Rat.mul_le_mul_of_nonneg_left hw n0
 have:=ng_sub a h (by grind)
 have e:Cp.of n+(x-Cp.of n)=x:=Cp.ext' (by simp only[Cp.add_re,Cp.sub_re];grind) (by simp only[Cp.add_im,Cp.sub_im];grind)
 rw[e]at this
 exact this.mono (Rat.mul_nonneg n0 (by decide +kernel)) (by grind)
section
variable {n:Nat} {z w:Nat→Cp} (hz:Pts rhoP sigP n z) (hw:Pts rhoP sigP n w) (hzw:∀ k,k<n→z k*w k=Cp.one) (hn:0<n)
include hz hw hzw hn
theorem EE_523:593*EE≤1/1000:=by unfold EE;decide +kernel
theorem geo_far {b:Cp} (h:(Fc.geo b qB).Ok rhoP) {q:Nat} (h9:q≤9) {x:Nat→Cp} (hx:Pts rhoP sigP n x):Ng (csm (fun k=>prodF (repF b qB q) (x k)) n) ((n:Rat)*(999/1000)):=by
 have n0:(0:Rat)≤(n:Rat):=by exact_mod_cast Nat.zero_le n
 have h1:=prod_one hx hn _ (repF_ok h q) (repF_geo b qB q); have hE:eL sigP 1 (repF b qB q)≤EE:=eL_le (by omega) (by rw[repF_cnt];omega) (by rw[repF_kap];exact pow_le_pow (by decide +kernel) (by omega)); have hW:wL (repF b qB q)≤593:=by rw[repF_w];exact geo_w h9
 have hW0:0≤wL (repF b qB q):=by rw[repF_w];exact geo_w0 q
 have h2:=h1.mono (Rat.mul_le_mul_of_nonneg_left (Rat.mul_le_mul_of_nonneg_left hE hW0) n0); refine near_n n0 h2 (Rat.le_trans (Rat.mul_le_mul_of_nonneg_right hW EE_pos) ?_); unfold EE; decide +kernel
theorem w_pos {k:Nat} (hk:k<n):Ng (z k) (999/1000):=by
 have e:=hzw k hk; have b:=hw.at_ k hk
 refine⟨by decide +kernel,?_⟩
 have e2:(z k).nsq*(w k).nsq=1:=by
  rw[← Cp.nsq_mul,e]
  unfold Cp.nsq; simp only[Cp.one_re,Cp.one_im]; grind
 have r2:rhoP*rhoP≤1001/1000:=by
  have a:=rho_in; have c:=rho_one
  have:=mul_mono' a a (Rat.le_trans (by decide) c) (by decide +kernel)
  refine Rat.le_trans this ?_
  decide +kernel
 have hb:=Rat.le_trans b.2 r2; have hz0:=(z k).nsq_nonneg; refine Rat.not_lt.1 fun hl=>?_
 have h1:=Rat.mul_le_mul_of_nonneg_left hb hz0
 rw[e2]at h1
 grind
theorem lin_one {a:Cp} {r c:Rat} (hr:Nm a r) (hc:r+(rhoP-1)≤c):∀ k,k≤3→Nm (csm (fun i=>prodF (repL a c k) (z i)) n-Cp.of (n:Rat)*(-a).pw k) ((n:Rat)*((1+c)^k*EE))
 |0,_=>by
  have e:csm (fun i=>prodF (repL a c 0) (z i)) n=Cp.of (n:Rat):=csm_one n
  rw[e]
  show Nm (Cp.of (n:Rat)-Cp.of (n:Rat)*Cp.one) _
  rw[Cp.mul_one,Cp.sub_self,Rat.pow_zero,Rat.one_mul]
  exact nm_zero.mono (Rat.mul_nonneg (by exact_mod_cast Nat.zero_le n) EE_pos)
 |k+1,h=>by
  have n0:(0:Rat)≤(n:Rat):=by exact_mod_cast Nat.zero_le n
  have ih:=lin_one hr hc k (by omega); have c0:0≤c:=by have:=hr.1;have:=rho_one;grind
  have ac:r≤c:=by have:=rho_one;grind
  have h1:=prod_sum hz hn (repL a c k) (repL_ok hr hc k) 1 (Nat.le_refl 1); have hE:eL sigP 1 (repL a c k)≤EE:=eL_le (by omega) (by rw[repL_cnt];omega) (by rw[repL_kap];exact Rat.le_trans (pow_le_pow (by decide +kernel) (show k≤3 by omega)) (by decide +kernel)); have W0:0≤(1+c)^k:=Rat.pow_nonneg (by grind); have h2:=h1.mono (Rat.mul_le_mul_of_nonneg_left (Rat.mul_le_mul_of_nonneg_left hE (by rw[repL_w];exact W0)) n0)
  rw[repL_w]at h2
  have h3:=(hr.neg.mono ac).mul ih; have e:csm (fun i=>prodF (repL a c (k+1)) (z i)) n-Cp.of (n:Rat)*(-a).pw (k+1)=csm (fun i=>(z i).pw 1*prodF (repL a c k) (z i)) n+-a*(csm (fun i=>prodF (repL a c k) (z i)) n-Cp.of (n:Rat)*(-a).pw k):=by
   have e1:csm (fun i=>prodF (repL a c (k+1)) (z i)) n=csm (fun i=>(z i).pw 1*prodF (repL a c k) (z i)) n+-a*csm (fun i=>prodF (repL a c k) (z i)) n:=by
    rw[← csm_mul,← csm_add]
    refine csm_congr fun i _=>?_
    show (z i-a)*prodF (repL a c k) (z i)=_
    rw[Cp.pw_one,Cp.sub_eq,Cp.add_mul]
   rw[e1,Cp.mul_sub]
   simp only[Cp.pw]
   rw[show -a*(Cp.of (n:Rat)*(-a).pw k)=Cp.of (n:Rat)*((-a).pw k*-a) by rw[Cp.mul_left_comm,Cp.mul_comm (-a)]]
   exact Cp.ext' (by simp only[Cp.add_re,Cp.sub_re];grind) (by simp only[Cp.add_im,Cp.sub_im];grind)
  rw[e]
  refine(h2.add h3).mono ?_
  rw[Rat.pow_succ]
  generalize (1+c)^k=P; grind
end
theorem le_div {a b c:Rat} (hc:0<c) (h:a*c≤b):a≤b/c:=by
 rw[Rat.div_def]
 have:=Rat.mul_le_mul_of_nonneg_right h (Rat.le_of_lt (Rat.inv_pos.2 hc))
 rwa [Rat.mul_assoc,Rat.mul_inv_cancel _ (by grind),Rat.mul_one]at this
theorem div_le {a b c:Rat} (hc:0<c) (h:a≤b*c):a/c≤b:=by
 rw[Rat.div_def]
 have:=Rat.mul_le_mul_of_nonneg_right h (Rat.le_of_lt (Rat.inv_pos.2 hc))
 rwa [Rat.mul_assoc,Rat.mul_inv_cancel _ (by grind),Rat.mul_one]at this
theorem pow_pos' {a:Rat} (h:0<a):∀ n:Nat,0<a^n
 |0=>by rw[Rat.pow_zero];decide
 |n+1=>by rw[Rat.pow_succ];exact Rat.mul_pos (pow_pos' h n) h
theorem pow_mulR (a b:Rat):∀ n:Nat,(a*b)^n=a^n*b^n
 |0=>by rw[Rat.pow_zero,Rat.pow_zero,Rat.pow_zero,Rat.one_mul]
 |n+1=>by rw[Rat.pow_succ,Rat.pow_succ,Rat.pow_succ,pow_mulR a b n];grind
theorem pow_up {a b:Rat} (h0:0≤a) (h:a≤b) (n:Nat):a^n≤b^n:=pow_mono h0 h n
theorem seven' {u v p q:Rat} (x1:u*u=p) (x2:v*v=q):7/10*(u+v)*(7/10*(u+v))≤p+q:=by
 have x3:=sq_nonneg (u-v); have x4:=sq_nonneg u; have x5:=sq_nonneg v; grind
theorem seven {x y:Rat}:7/10*(x.abs+y.abs)*(7/10*(x.abs+y.abs))≤x*x+y*y:=seven' (abs_sq x) (abs_sq y)
theorem div_back {a c:Rat} (h:c≠0):a/c*c=a:=by rw[Rat.div_def,Rat.mul_assoc,Rat.inv_mul_cancel _ h,Rat.mul_one]
theorem div_part {A P x y t:Rat} (h:x*P≠0) (e:t*x=y):A/(x*P)*(y*P)=A*t:=by
 have:=div_back (a:=A) h
 rw[← e]
 generalize A/(x*P)=D at *
 grind
section
variable {n:Nat} {z w:Nat→Cp} (hz:Pts rhoP sigP n z) (hw:Pts rhoP sigP n w) (hzw:∀ k,k<n→z k*w k=Cp.one) (hn:0<n)
 {s:Sd} {κ:Cp} {V:Nat→Cp} {l:Nat→Rat} {m:Rat}
include hz hw hzw hn
theorem nm_rho {x:Nat→Cp} (hx:Pts rhoP sigP n x) {q:Nat} (h9:q≤128) {k:Nat} (hk:k<n):Nm ((x k).pw q) (1+1/100000):=(nm_pw (hx.at_ k hk) q).mono (rho_pow h9)
theorem side_size (h:Side s) (g:Elw n z w s κ V l m):∃ B,Nm κ B∧B*s.W≤600*m:=by
 have m0:=g.m0 hn; have n0:(0:Rat)<(n:Rat):=by exact_mod_cast hn
 cases h with
 |inn b q h h1 h9=>
  have far:=geo_far hz hw hzw hn h h9 hw; have e:csm (fun k=>(z k).pw q*(Sd.inn b qB q).at_ (z k) (w k)) n=csm (fun k=>prodF (repF b qB q) (w k)) n:=csm_congr fun k hk=>by
   show (z k).pw q*((w k).pw q*((Fc.geo b qB).at (w k)).pw q)=_
   rw[← Cp.mul_assoc,← Cp.pw_mul,hzw k hk,Cp.pw_unit,Cp.one_mul,repF_prod]
  rw[← e]at far
  have:=g.size hn (fun k hk=>nm_rho hz hw hzw hn hz (show q≤128 by omega) hk) (by decide +kernel) far
  refine⟨_,this,?_⟩
  have hW:(Sd.inn b qB q).W≤593:=by show wL (repF b qB q)≤593;rw[repF_w];exact geo_w h9
  have B0:0≤1001/1000*m/(999/1000):=this.1; refine Rat.le_trans (Rat.mul_le_mul_of_nonneg_left hW B0) ?_
  rw[Rat.div_def,show ((999:Rat)/1000)⁻¹=1000/999 by decide +kernel]
  grind
 |out b q h h9=>
  have far:=geo_far hz hw hzw hn h h9 hz; have e:csm (fun k=>(z k).pw 0*(Sd.out (repF b qB q)).at_ (z k) (w k)) n=csm (fun k=>prodF (repF b qB q) (z k)) n:=csm_congr fun k hk=>by
   show Cp.one*prodF (repF b qB q) (z k)=_
   rw[Cp.one_mul]
  rw[← e]at far
  have:=g.size hn (fun k hk=>nm_rho hz hw hzw hn hz (show 0≤128 by omega) hk) (by decide +kernel) far
  refine⟨_,this,?_⟩
  have hW:(Sd.out (repF b qB q)).W≤593:=by show wL (repF b qB q)≤593;rw[repF_w];exact geo_w h9
  have B0:0≤1001/1000*m/(999/1000):=this.1; refine Rat.le_trans (Rat.mul_le_mul_of_nonneg_left hW B0) ?_
  rw[Rat.div_def,show ((999:Rat)/1000)⁻¹=1000/999 by decide +kernel]
  grind
 |lin a r k hr h3=>
  have r0:0≤r:=by rw[hr];have:=abs_nonneg a.re;have:=abs_nonneg a.im;grind
  have hW:(Sd.out (repL a (r+1/1000) k)).W=(1+(r+1/1000))^k:=repL_w a _ k
  rw[hW]
  have hnm:Nm a r:=by rw[hr];exact nm_abs a
  have hc:r+(rhoP-1)≤r+1/1000:=by rw[hr];exact lin_c a
  rcases(Rat.le_total:3/5≤r∨r≤3/5) with hr3|hr3
  ·have gg:Ng (-a) (7/10*r):=by
    refine⟨by grind,?_⟩
    have e:(-a).nsq=a.re*a.re+a.im*a.im:=by unfold Cp.nsq;simp only[Cp.neg_re,Cp.neg_im];grind
    rw[e,hr]
    exact seven
   have G:=ng_pw gg k; have G0:0<(7/10*r)^k:=pow_pos' (by grind) k; have hl:=lin_one hz hw hzw hn hnm hc k h3; have ratio:(1+(r+1/1000))^k≤56*(7/10*r)^k:=by
    have e1:(1+(r+1/1000))^k≤(382/100*(7/10*r))^k:=pow_up (by grind) (by grind) k
    rw[pow_mulR]at e1
    refine Rat.le_trans e1 (Rat.mul_le_mul_of_nonneg_right ?_ (Rat.le_of_lt G0))
    exact Rat.le_trans (pow_le_pow (by decide +kernel) h3) (by decide +kernel)
   have big:Ng (csm (fun i=>prodF (repL a (r+1/1000) k) (z i)) n) ((n:Rat)*(999/1000*(7/10*r)^k)):=by
    have a1:Ng (Cp.of (n:Rat)*(-a).pw k) ((n:Rat)*(7/10*r)^k):=by
     refine Ng.mul ⟨Rat.le_of_lt n0,?_⟩ G
     unfold Cp.nsq;simp only[Cp.of_re,Cp.of_im];grind
    have small:(1+(r+1/1000))^k*EE≤1/1000*(7/10*r)^k:=by
     have i1:=Rat.mul_le_mul_of_nonneg_right ratio EE_pos; have i2:=Rat.mul_le_mul_of_nonneg_left EE_le (Rat.le_of_lt G0); grind
    have i3:=Rat.mul_le_mul_of_nonneg_left small (Rat.le_of_lt n0); have p1:=Rat.mul_pos n0 G0
    have:=ng_sub a1 hl (by grind)
    have e:Cp.of (n:Rat)*(-a).pw k+(csm (fun i=>prodF (repL a (r+1/1000) k) (z i)) n-Cp.of (n:Rat)*(-a).pw k)=csm (fun i=>prodF (repL a (r+1/1000) k) (z i)) n:=Cp.ext' (by simp only[Cp.add_re,Cp.sub_re];grind) (by simp only[Cp.add_im,Cp.sub_im];grind)
    rw[e]at this
    exact this.mono (by grind) (by grind)
   have e:csm (fun i=>(z i).pw 0*(Sd.out (repL a (r+1/1000) k)).at_ (z i) (w i)) n=csm (fun i=>prodF (repL a (r+1/1000) k) (z i)) n:=csm_congr fun i hi=>by
    show Cp.one*prodF (repL a (r+1/1000) k) (z i)=_
    rw[Cp.one_mul]
   rw[← e]at big
   have G1:0<999/1000*(7/10*r)^k:=by grind
   have:=g.size hn (fun i hi=>nm_rho hz hw hzw hn hz (show 0≤128 by omega) hi) G1 big
   refine⟨_,this,?_⟩
   refine Rat.le_trans (Rat.mul_le_mul_of_nonneg_left ratio this.1) ?_
   have e3:1001/1000*m/(999/1000*(7/10*r)^k)*(56*(7/10*r)^k)=1001/1000*m*(56*(1000/999)):=by
    exact div_part (by grind) (by decide +kernel)
   rw[e3]
   grind
  ·obtain⟨i,hi,hlow⟩:=rsm_low (f:=fun k=>l k+dE*(l k+m)) (c:=1001/1000*m) hn (by
    rw[rsm_add,rsm_mul,rsm_add,rsm_const,g.sum]
    have nm0:=Rat.mul_nonneg (Rat.le_of_lt n0) m0; have d:=Rat.mul_le_mul_of_nonneg_right dE_le nm0; generalize hN:(n:Rat)*m=N at *
    rw[show (n:Rat)*(1001/1000*m)=1001/1000*N by rw[← hN];grind]
    grind)
   have hp:=(g.phi hi).mono hlow; have far:Ng (z i-a) (399/1000):=by
    have a1:=w_pos hz hw hzw hn hi
    have:=ng_sub a1 hnm.neg (by grind)
    rw[← Cp.sub_eq]at this
    exact this.mono (by decide +kernel) (by grind)
   have hq:Ng ((Sd.out (repL a (r+1/1000) k)).at_ (z i) (w i)) ((399/1000)^k):=by
    show Ng (prodF (repL a (r+1/1000) k) (z i)) _
    rw[repL_prod]
    exact ng_pw far k
   have G0:(0:Rat)<(399/1000)^k:=pow_pos' (by decide +kernel) k; have hB:Nm κ (1001/1000*m/(399/1000)^k):=by
    refine ng_div hq G0 ?_
    rw[Cp.mul_comm]
    have e:(399/1000:Rat)^k*(1001/1000*m/(399/1000)^k)=1001/1000*m:=by
     rw[Rat.mul_comm]
     exact div_back (by grind)
    rw[e]
    exact hp
   refine⟨_,hB,?_⟩
   have ratio:(1+(r+1/1000))^k≤65*(399/1000)^k:=by
    have e1:(1+(r+1/1000))^k≤(4013/1000*(399/1000))^k:=pow_up (by grind) (by grind) k
    rw[pow_mulR]at e1
    refine Rat.le_trans e1 (Rat.mul_le_mul_of_nonneg_right ?_ (Rat.le_of_lt G0))
    exact Rat.le_trans (pow_le_pow (by decide +kernel) h3) (by decide +kernel)
   refine Rat.le_trans (Rat.mul_le_mul_of_nonneg_left ratio hB.1) ?_
   have e3:1001/1000*m/(399/1000)^k*(65*(399/1000)^k)=1001/1000*m*65:=by
    have:=div_back (a:=1001/1000*m) (c:=(399/1000:Rat)^k) (by grind)
    generalize ((399:Rat)/1000)^k=P at *
    generalize 1001/1000*m/P=D at *
    grind
   rw[e3]
   grind
end
theorem csm_zero:∀ n,csm (fun _=>Cp.zero) n=Cp.zero
 |0=>rfl
 |n+1=>by show csm (fun _=>Cp.zero) n+Cp.zero=_;rw[csm_zero n,Cp.add_zero]
theorem csm_swap (f:Nat→Nat→Cp) (N:Nat):∀ n,csm (fun k=>csm (fun i=>f i k) N) n=csm (fun i=>csm (fun k=>f i k) n) N
 |0=>by show Cp.zero=csm (fun i=>Cp.zero) N;rw[csm_zero]
 |n+1=>by
  show csm (fun k=>csm (fun i=>f i k) N) n+csm (fun i=>f i n) N=_
  rw[csm_swap f N n,← csm_add]
  rfl
theorem rsm_swap (f:Nat→Nat→Rat) (N:Nat):∀ n,rsm (fun k=>rsm (fun i=>f i k) N) n=rsm (fun i=>rsm (fun k=>f i k) n) N
 |0=>by
  show (0:Rat)=rsm (fun i=>(0:Rat)) N
  rw[rsm_const];grind
 |n+1=>by
  show rsm (fun k=>rsm (fun i=>f i k) N) n+rsm (fun i=>f i n) N=_
  rw[rsm_swap f N n,← rsm_add]
  rfl
theorem csm_mul_csm (f g:Nat→Cp) (N:Nat):csm f N*csm g N=csm (fun i=>csm (fun j=>f i*g j) N) N:=by
 have e:(fun i=>csm (fun j=>f i*g j) N)=fun i=>csm g N*f i:=by
  funext i
  rw[csm_mul,Cp.mul_comm]
 rw[e,csm_mul,Cp.mul_comm]
theorem rsm_mul_rsm (f g:Nat→Rat) (N:Nat):rsm f N*rsm g N=rsm (fun i=>rsm (fun j=>f i*g j) N) N:=by
 have e:(fun i=>rsm (fun j=>f i*g j) N)=fun i=>rsm g N*f i:=by
  funext i
  rw[rsm_mul,Rat.mul_comm]
 rw[e,rsm_mul,Rat.mul_comm]
theorem csm_mul' (a:Cp) (f:Nat→Cp) (n:Nat):a*csm f n=csm (fun k=>a*f k) n:=(csm_mul a f n).symm
theorem mean_sq {f:Nat→Rat} {n:Nat} {M U:Rat} (hn:0<n) (h1:rsm f n=(n:Rat)*M) (h2:rsm (fun k=>f k*f k) n=(n:Rat)*U):M*M≤U:=by
 have n0:(0:Rat)<(n:Rat):=by exact_mod_cast hn
 have h:=rsm_nonneg (f:=fun k=>(f k-M)*(f k-M)) (n:=n) fun k _=>sq_nonneg _
 have e:rsm (fun k=>(f k-M)*(f k-M)) n=rsm (fun k=>f k*f k) n+(-2*M)*rsm f n+(n:Rat)*(M*M):=by
  rw[← rsm_mul,← rsm_const,← rsm_add,← rsm_add]
  congr 1
  funext k
  grind
 rw[e,h1,h2]at h
 refine Rat.not_lt.1 fun hl=>?_
 have:=Rat.mul_lt_mul_of_pos_left hl n0
 grind
def cI:Rat:=27/100000000000
def cS:Rat:=25/100000000
section
variable {n N:Nat} {z w:Nat→Cp} (hz:Pts rhoP sigP n z) (hw:Pts rhoP sigP n w) (hzw:∀ k,k<n→z k*w k=Cp.one) (hn:0<n)
 {s:Nat→Sd} {κ:Nat→Cp} {V:Nat→Nat→Cp} {l:Nat→Nat→Rat} {m:Nat→Rat}
 (hs:∀ i,i<N→Side (s i)) (hE:∀ i,i<N→Elw n z w (s i) (κ i) (V i) (l i) (m i))
include hz hw hzw hn hs hE
theorem ring_one {i:Nat} (hi:i<N):Nm (csm (fun k=>z k*V i k) n-Cp.of (n:Rat)*(κ i*(s i).intG)) ((n:Rat)*(cI*m i)):=by
 have n0:(0:Rat)<(n:Rat):=by exact_mod_cast hn
 have g:=hE i hi; have m0:=g.m0 hn
 obtain⟨B,hB,hBW⟩:=side_size hz hw hzw hn (hs i hi) g
 have h1:=int_sum hz hw hzw hn (hs i hi).ok; have h2:=hB.mul h1; have h3:=nm_csm_rsm (n:=n) (f:=fun k=>z k*(V i k-κ i*(s i).at_ (z k) (w k))) (r:=fun k=>(1+1/100000)*(dE*(l i k+m i))) fun k hk=>by
  have:=nm_rho hz hw hzw hn hz (show 1≤128 by omega) hk
  rw[Cp.pw_one]at this
  exact this.mul (g.err k hk)
 have e:csm (fun k=>z k*V i k) n-Cp.of (n:Rat)*(κ i*(s i).intG)=csm (fun k=>z k*(V i k-κ i*(s i).at_ (z k) (w k))) n+κ i*(csm (fun k=>z k*(s i).at_ (z k) (w k)) n-Cp.of (n:Rat)*(s i).intG):=by
  have e1:csm (fun k=>z k*(V i k-κ i*(s i).at_ (z k) (w k))) n=csm (fun k=>z k*V i k) n-κ i*csm (fun k=>z k*(s i).at_ (z k) (w k)) n:=by
   rw[← csm_mul,← csm_sub]
   refine csm_congr fun k _=>?_
   rw[Cp.mul_sub,Cp.mul_left_comm]
  rw[e1,Cp.mul_sub,Cp.mul_left_comm (Cp.of (n:Rat))]
  exact Cp.ext' (by simp only[Cp.add_re,Cp.sub_re];grind) (by simp only[Cp.add_im,Cp.sub_im];grind)
 rw[e]
 refine(h3.add h2).mono ?_
 rw[rsm_mul,rsm_mul,rsm_add,rsm_const,g.sum]
 have nm0:=Rat.mul_nonneg (Rat.le_of_lt n0) m0; have i1:=Rat.mul_le_mul_of_nonneg_right hBW (show (0:Rat)≤E1 by unfold E1;decide +kernel); have i2:=Rat.mul_le_mul_of_nonneg_left i1 (Rat.le_of_lt n0); have e2:B*((n:Rat)*((s i).W*E1))=(n:Rat)*(B*(s i).W*E1):=by grind
 rw[e2]
 have e3:(n:Rat)*(600*m i*E1)=(n:Rat)*m i*(600*E1):=by grind
 rw[e3]at i2
 have e4:(n:Rat)*(cI*m i)=(n:Rat)*m i*cI:=by grind
 rw[e4]
 generalize (n:Rat)*m i=X at *
 generalize (n:Rat)*(B*(s i).W*E1)=Y at *
 unfold cI; unfold dE; unfold E1 at i2; grind
theorem ring_int:Nm (csm (fun k=>z k*csm (fun i=>V i k) N) n-Cp.of (n:Rat)*csm (fun i=>κ i*(s i).intG) N) ((n:Rat)*(cI*rsm m N)):=by
 have h:=nm_csm_rsm (n:=N) (f:=fun i=>csm (fun k=>z k*V i k) n-Cp.of (n:Rat)*(κ i*(s i).intG)) (r:=fun i=>(n:Rat)*(cI*m i)) fun i hi=>ring_one hz hw hzw hn hs hE hi
 rw[rsm_mul,rsm_mul]at h
 rw[csm_sub,csm_mul]at h
 have e:csm (fun k=>z k*csm (fun i=>V i k) N) n=csm (fun i=>csm (fun k=>z k*V i k) n) N:=by
  rw[← csm_swap]
  exact csm_congr fun k _=>csm_mul' _ _ _
 rw[e]
 exact h
theorem ring_pairs:Nm (csm (fun k=>z k*(csm (fun i=>κ i*(s i).at_ (z k) (w k)) N*csm (fun i=>κ i*(s i).at_ (z k) (w k)) N)) n-Cp.of (n:Rat)*csm (fun i=>csm (fun j=>κ i*κ j*(s i).pairG (s j)) N) N) ((n:Rat)*(360000*EE*(rsm m N*rsm m N))):=by
 have n0:(0:Rat)<(n:Rat):=by exact_mod_cast hn
 have hp:∀ i,i<N→∀ j,j<N→Nm (csm (fun k=>z k*(κ i*(s i).at_ (z k) (w k)*(κ j*(s j).at_ (z k) (w k)))) n-Cp.of (n:Rat)*(κ i*κ j*(s i).pairG (s j))) ((n:Rat)*(360000*EE*(m i*m j))):=fun i hi j hj=>by
  obtain⟨B,hB,hBW⟩:=side_size hz hw hzw hn (hs i hi) (hE i hi)
  obtain⟨C,hC,hCW⟩:=side_size hz hw hzw hn (hs j hj) (hE j hj)
  have h1:=pair_sum hz hw hzw hn (hs i hi).ok (hs j hj).ok; have h2:=(hB.mul hC).mul h1; have e:κ i*κ j*(csm (fun k=>z k*((s i).at_ (z k) (w k)*(s j).at_ (z k) (w k))) n-Cp.of (n:Rat)*(s i).pairG (s j))=csm (fun k=>z k*(κ i*(s i).at_ (z k) (w k)*(κ j*(s j).at_ (z k) (w k)))) n-Cp.of (n:Rat)*(κ i*κ j*(s i).pairG (s j)):=by
   rw[Cp.mul_sub,← csm_mul,Cp.mul_left_comm (κ i*κ j) (Cp.of (n:Rat))]
   congr 1
   refine csm_congr fun k _=>?_
   generalize (s i).at_ (z k) (w k)=a; generalize (s j).at_ (z k) (w k)=b
   rw[Cp.mul_left_comm (κ i*κ j) (z k),Cp.mul_assoc (κ i),Cp.mul_left_comm (κ j) a b,← Cp.mul_assoc (κ i) a]
  rw[e]at h2
  refine h2.mono ?_
  have w0:0≤C*(s j).W:=by
   refine Rat.mul_nonneg hC.1 ?_
   have ok:=(hs j hj).ok; cases hsj:s j with
   |inn b qb q=>
    rw[hsj]at ok
    exact Rat.le_trans (by decide) (prod_sup hw.one (repF_ok ok.1 q) (hw.at_ 0 hn)).2
   |out L=>
    rw[hsj]at ok
    exact Rat.le_trans (by decide) (prod_sup hz.one ok.1 (hz.at_ 0 hn)).2
  have mi:=(hE i hi).m0 hn; have i1:=mul_mono' hBW hCW w0 (show 0≤600*m i by grind); have i2:=Rat.mul_le_mul_of_nonneg_right i1 EE_pos; have i3:=Rat.mul_le_mul_of_nonneg_left i2 (Rat.le_of_lt n0); have e5:B*C*((n:Rat)*((s i).W*(s j).W*EE))=(n:Rat)*(B*(s i).W*(C*(s j).W)*EE):=by grind
  have e6:(n:Rat)*(600*m i*(600*m j)*EE)=(n:Rat)*(360000*EE*(m i*m j)):=by grind
  rw[e5,← e6]
  exact i3
 have h:=nm_csm_rsm (n:=N) (f:=fun i=>csm (fun j=>csm (fun k=>z k*(κ i*(s i).at_ (z k) (w k)*(κ j*(s j).at_ (z k) (w k)))) n-Cp.of (n:Rat)*(κ i*κ j*(s i).pairG (s j))) N) (r:=fun i=>rsm (fun j=>(n:Rat)*(360000*EE*(m i*m j))) N) fun i hi=>nm_csm_rsm fun j hj=>hp i hi j hj
 have er:rsm (fun i=>rsm (fun j=>(n:Rat)*(360000*EE*(m i*m j))) N) N=(n:Rat)*(360000*EE*(rsm m N*rsm m N)):=by
  rw[rsm_mul_rsm,← rsm_mul,← rsm_mul]
  congr 1
  funext i
  rw[rsm_mul,rsm_mul]
 rw[er]at h
 have ef:csm (fun i=>csm (fun j=>csm (fun k=>z k*(κ i*(s i).at_ (z k) (w k)*(κ j*(s j).at_ (z k) (w k)))) n-Cp.of (n:Rat)*(κ i*κ j*(s i).pairG (s j))) N) N =
   csm (fun k=>z k*(csm (fun i=>κ i*(s i).at_ (z k) (w k)) N*csm (fun i=>κ i*(s i).at_ (z k) (w k)) N)) n-Cp.of (n:Rat)*csm (fun i=>csm (fun j=>κ i*κ j*(s i).pairG (s j)) N) N:=by
  have e1:csm (fun k=>z k*(csm (fun i=>κ i*(s i).at_ (z k) (w k)) N*csm (fun i=>κ i*(s i).at_ (z k) (w k)) N)) n=csm (fun i=>csm (fun j=>csm (fun k=>z k*(κ i*(s i).at_ (z k) (w k)*(κ j*(s j).at_ (z k) (w k)))) n) N) N:=by
   have e2:∀ k,z k*(csm (fun i=>κ i*(s i).at_ (z k) (w k)) N*csm (fun i=>κ i*(s i).at_ (z k) (w k)) N)=csm (fun i=>csm (fun j=>z k*(κ i*(s i).at_ (z k) (w k)*(κ j*(s j).at_ (z k) (w k)))) N) N:=fun k=>by
    rw[csm_mul_csm,csm_mul']
    exact csm_congr fun i _=>csm_mul' _ _ _
   rw[csm_congr (n:=n) fun k _=>e2 k,csm_swap]
   exact csm_congr fun i _=>csm_swap _ _ _
  rw[e1,← csm_mul,← csm_sub]
  refine csm_congr fun i _=>?_
  rw[csm_sub,csm_mul]
 rw[ef]at h
 exact h
end
theorem sq_mix {S M:Rat} (hS:0≤S) (hM:0≤M):(1+1/100000)*(dE*(S+M)*(S+(S+dE*(S+M))))≤dE*(5*(S*S+M*M)):=by
 have h1:=sq_nonneg (S-M); have h2:=sq_nonneg S; have h3:=sq_nonneg M; have h4:=Rat.mul_nonneg hS hM; have d:=dE_le; have d0:=dE_pos; have e:(S+M)*(S+(S+dE*(S+M)))≤4*(S*S+M*M):=by
  have q:(S+M)*(S+M)≤2*(S*S+M*M):=by grind
  have q0:=sq_nonneg (S+M); have i:=Rat.mul_le_mul_of_nonneg_right d q0; grind
 have i:=Rat.mul_le_mul_of_nonneg_left e d0; have e2:dE*(S+M)*(S+(S+dE*(S+M)))=dE*((S+M)*(S+(S+dE*(S+M)))):=by rw[Rat.mul_assoc]
 rw[e2]
 have q:=Rat.mul_nonneg d0 (show 0≤S*S+M*M by grind); generalize dE*((S+M)*(S+(S+dE*(S+M))))=A at *
 grind
section
variable {n N:Nat} {z w:Nat→Cp} (hz:Pts rhoP sigP n z) (hw:Pts rhoP sigP n w) (hzw:∀ k,k<n→z k*w k=Cp.one) (hn:0<n)
 {s:Nat→Sd} {κ:Nat→Cp} {V:Nat→Nat→Cp} {l:Nat→Nat→Rat} {m:Nat→Rat}
 (hs:∀ i,i<N→Side (s i)) (hE:∀ i,i<N→Elw n z w (s i) (κ i) (V i) (l i) (m i))
include hz hw hzw hn hs hE
theorem tot_len {k:Nat} (hk:k<n):Nm (csm (fun i=>V i k) N) (rsm (fun i=>l i k) N):=nm_csm_rsm fun i hi=>(hE i hi).len k hk
theorem tot_err {k:Nat} (hk:k<n):Nm (csm (fun i=>V i k) N-csm (fun i=>κ i*(s i).at_ (z k) (w k)) N) (dE*(rsm (fun i=>l i k) N+rsm m N)):=by
 have h:=nm_csm_rsm (n:=N) (f:=fun i=>V i k-κ i*(s i).at_ (z k) (w k)) (r:=fun i=>dE*(l i k+m i)) fun i hi=>(hE i hi).err k hk
 rw[csm_sub,rsm_mul,rsm_add]at h
 exact h
theorem tot_sum:rsm (fun k=>rsm (fun i=>l i k) N) n=(n:Rat)*rsm m N:=by
 rw[rsm_swap,← rsm_mul]
 have key:∀ j,j≤N→rsm (fun i=>rsm (fun k=>l i k) n) j=rsm (fun i=>(n:Rat)*m i) j:=by
  intro j; induction j with
  |zero=>intro _;rfl
  |succ j ih=>
   intro hj; show rsm (fun i=>rsm (fun k=>l i k) n) j+rsm (fun k=>l j k) n=rsm (fun i=>(n:Rat)*m i) j+(n:Rat)*m j
   rw[ih (by omega),(hE j (by omega)).sum]
 exact key N (Nat.le_refl N)
theorem tot_m:0≤rsm m N:=rsm_nonneg fun i hi=>(hE i hi).m0 hn
theorem ring_sq {U:Rat} (hU:rsm (fun k=>rsm (fun i=>l i k) N*rsm (fun i=>l i k) N) n=(n:Rat)*U):
  Nm (csm (fun k=>z k*(csm (fun i=>V i k) N*csm (fun i=>V i k) N)) n-Cp.of (n:Rat)*csm (fun i=>csm (fun j=>κ i*κ j*(s i).pairG (s j)) N) N) ((n:Rat)*(cS*U)):=by
 have n0:(0:Rat)<(n:Rat):=by exact_mod_cast hn
 have hM:=mean_sq hn (tot_sum hz hw hzw hn hs hE) hU; have M0:=tot_m hz hw hzw hn hs hE; have hp:=ring_pairs hz hw hzw hn hs hE; have hd:=nm_csm_rsm (n:=n) (f:=fun k=>z k*(csm (fun i=>V i k) N*csm (fun i=>V i k) N)-z k*(csm (fun i=>κ i*(s i).at_ (z k) (w k)) N*csm (fun i=>κ i*(s i).at_ (z k) (w k)) N))
  (r:=fun k=>dE*(5*(rsm (fun i=>l i k) N*rsm (fun i=>l i k) N+rsm m N*rsm m N))) fun k hk=>by
  have a:=tot_len hz hw hzw hn hs hE hk; have b:=tot_err hz hw hzw hn hs hE hk; have c:=nm_rho hz hw hzw hn hz (show 1≤128 by omega) hk
  rw[Cp.pw_one]at c
  generalize csm (fun i=>V i k) N=X at *
  generalize csm (fun i=>κ i*(s i).at_ (z k) (w k)) N=P at *
  generalize rsm (fun i=>l i k) N=S at *
  have d:=c.mul (b.mul (a.add (a.add b.comm))); have e:z k*(X*X)-z k*(P*P)=z k*((X-P)*(X+(X+(P-X)))):=by
   have e1:X+(P-X)=P:=Cp.ext' (by simp only[Cp.add_re,Cp.sub_re];grind) (by simp only[Cp.add_im,Cp.sub_im];grind)
   rw[e1,← Cp.mul_sub,Cp.sub_mul,Cp.mul_add,Cp.mul_add,Cp.mul_comm P X]
   congr 1
   exact Cp.ext' (by simp only[Cp.add_re,Cp.sub_re];grind) (by simp only[Cp.add_im,Cp.sub_im];grind)
  rw[e]
  exact d.mono (sq_mix a.1 M0)
 rw[csm_sub]at hd
 refine(hd.tri hp).mono ?_
 rw[rsm_mul,rsm_mul,rsm_add,rsm_const,hU]
 have i1:=Rat.mul_le_mul_of_nonneg_left hM (Rat.le_of_lt n0); have U0:0≤U:=Rat.le_trans (sq_nonneg _) hM; have nU0:=Rat.mul_nonneg (Rat.le_of_lt n0) U0; have e1:(n:Rat)*(360000*EE*(rsm m N*rsm m N))=(n:Rat)*(rsm m N*rsm m N)*(360000*EE):=by grind
 have e2:(n:Rat)*(cS*U)=(n:Rat)*U*cS:=by grind
 rw[e1,e2]
 generalize (n:Rat)*(rsm m N*rsm m N)=A at *
 generalize (n:Rat)*U=B at *
 unfold cS dE EE; grind
end
open Go.Vm Ieee
theorem rl_err {V X:Cp} {δ l:Rat} (h:Rl V X δ) (d0:0≤δ) (hd:δ≤1/1000) (hl:Nm V l):Nm (V-X) (101/100*δ*l):=by
 obtain⟨e,e1,rfl⟩:=h
 have g:=ng_one e1 (show δ≤1 by grind); have p:0<1-δ:=by grind
 have hX:Nm X (l/(1-δ)):=by
  refine ng_div g p ?_
  rw[Rat.mul_comm,div_back (by grind),Cp.mul_comm]
  exact hl
 have e2:X*(Cp.one+e)-X=X*e:=by
  rw[Cp.mul_add,Cp.mul_one]
  exact Cp.ext' (by simp only[Cp.add_re,Cp.sub_re];grind) (by simp only[Cp.add_im,Cp.sub_im];grind)
 rw[e2]
 refine(hX.mul e1).mono ?_
 have l0:=hl.1; have q:l/(1-δ)≤101/100*l:=div_le p (by
  have:=Rat.mul_le_mul_of_nonneg_left (show δ≤1/1000 from hd) l0
  grind)
 have:=Rat.mul_le_mul_of_nonneg_right q d0
 grind
theorem rl_pw {z Z:Cp} {δ:Rat} (h:Rl z Z δ) (d0:0≤δ):∀ m:Nat,(m:Rat)*δ≤1/100→Rl (z.pw m) (Z.pw m) ((m:Rat)*δ*(1+(m:Rat)*δ))
 |0,_=>by
  show Rl Cp.one Cp.one _; refine Rl.refl _ ?_
  rw[show ((0:Nat):Rat)=0 from rfl]
  grind
 |m+1,hm=>by
  have c:((m+1:Nat):Rat)=(m:Rat)+1:=by push_cast;rfl
  rw[c]at hm ⊢
  have m0:(0:Rat)≤(m:Rat):=by exact_mod_cast Nat.zero_le m
  have ih:=rl_pw h d0 m (by grind)
  refine((ih.mul h)).mono ?_
  have a:=Rat.mul_nonneg m0 d0; have b:=Rat.mul_nonneg a d0; have c1:=Rat.mul_le_mul_of_nonneg_right (show (m:Rat)*δ≤1/100 by grind) b; have c2:=Rat.mul_nonneg d0 d0; generalize hX:(m:Rat)*δ=X at *
  have e1:((m:Rat)+1)*δ=X+δ:=by grind
  rw[e1]
  grind
theorem seen_part {R X c d a:Rat} (R1:1≤R) (R2:R≤2000) (bb:eps/4*(1002*R)≤1/1000*R) (h:(X-(c+d)).abs≤eps/4*(1002*R)) (hc:c.abs≤1000) (hd:d.abs≤1001/1000*R) (ha:a.abs≤1000):(X-a).abs≤2003*R∧(X-a).abs≤4005:=by
 have e1:=abs_add_le (X-(c+d)) (c+d-a); have e2:=abs_add_le c (d-a); have e3:=abs_add_le d (-a)
 rw[show X-(c+d)+(c+d-a)=X-a by grind]at e1
 rw[show c+(d-a)=c+d-a by grind]at e2
 rw[show d+-a=d-a by grind,abs_neg]at e3
 generalize (X-a).abs=A at *
 generalize (X-(c+d)).abs=B at *
 generalize (c+d-a).abs=C at *
 generalize (d-a).abs=F at *
 generalize c.abs=G at *
 generalize d.abs=H at *
 generalize a.abs=I at *
 constructor<;>grind
theorem seen_w {R E1 Y:Rat} (R2:R≤2000) (b:eps/4*(2003*R)≤1/1000*R) (g:(E1-Y).abs≤eps/4*(2003*R)) (h:Y.abs≤4005):E1.abs≤4100:=by
 have:=abs_add_le (E1-Y) Y
 rw[show E1-Y+Y=E1 by grind]at this
 grind
theorem seen_fin {R E X c d a:Rat} (er:0≤eps*R) (inv0:0≤R⁻¹) (ri:R⁻¹*R=1) (h:(X-(c+d)).abs≤eps/4*(1002*R)) (g:(E-(X-a)).abs≤eps/4*(2003*R)):(R⁻¹*E-(R⁻¹*d-R⁻¹*(a-c))).abs≤7513/10*eps:=by
 have e1:=abs_add_le (E-(X-a)) (X-(c+d))
 rw[show E-(X-a)+(X-(c+d))=E-(d-(a-c)) by grind]at e1
 have e2:R⁻¹*E-(R⁻¹*d-R⁻¹*(a-c))=R⁻¹*(E-(d-(a-c))):=by grind
 rw[e2,abs_mul,Rat.abs_of_nonneg inv0]
 have:=Rat.mul_le_mul_of_nonneg_left (show (E-(d-(a-c))).abs≤R*(7513/10*eps) by grind) inv0
 rw[← Rat.mul_assoc,ri,Rat.one_mul]at this
 exact this
section
variable {c1 c2 a1 a2 x1 x2:Nat} {cx cy ax ay:Int} {R:Rat} {D o:Cp}
theorem place_at (hc:IsC c1 c2 cx cy) (b1:cx.natAbs≤1000) (b2:cy.natAbs≤1000) (R1:1≤R) (R2:R≤2000) (hD:IsZ x1 x2 D) (dD:Nm D (1001/1000*R)):
  ∃ z1 z2 Z,IsZ z1 z2 Z∧Nm Z 10000∧(Z.re-((cx:Rat)+D.re)).abs≤eps/4*(1002*R)∧(Z.im-((cy:Rat)+D.im)).abs≤eps/4*(1002*R)∧∀(T:Type) (K:Nat→Nat→Option T),addK T c1 c2 x1 x2 K=K z1 z2:=by
 have n1:=int_abs_le (n:=cx) (N:=1000) b1; have n2:=int_abs_le (n:=cy) (N:=1000) b2; have o3:(((1000:Nat):Int):Rat)=1000:=rfl
 rw[o3]at n1 n2
 have ep:=eps_pos; have et:=eps_tiny; have d1:=dD.re; have d2:=dD.im; have s1:((cx:Rat)+D.re).abs≤1002*R:=by have:=abs_add_le (cx:Rat) D.re;grind
 have s2:((cy:Rat)+D.im).abs≤1002*R:=by have:=abs_add_le (cy:Rat) D.im;grind
 have t1:((cx:Rat)+D.re).abs≤3002:=by have:=abs_add_le (cx:Rat) D.re;grind
 have t2:((cy:Rat)+D.im).abs≤3002:=by have:=abs_add_le (cy:Rat) D.im;grind
 obtain⟨z1,Z1,e1,i1,q1⟩:=add_is hc.1 hD.1 (lt_big (by grind))
 obtain⟨z2,Z2,e2,i2,q2⟩:=add_is hc.2 hD.2 (lt_big (by grind))
 have hB:(2:Rat)^(-1000:Int)≤1002*R:=Rat.le_trans p1000_le (by grind); have r1:=rnd_q q1 s1 hB; have r2:=rnd_q q2 s2 hB; have bb:eps/4*(1002*R)≤1:=by
  have:=Rat.mul_le_mul_of_nonneg_right et (show 0≤1002*R by grind)
  grind
 refine⟨z1,z2,⟨Z1,Z2⟩,⟨i1,i2⟩,?_,r1,r2,fun T K=>by unfold addK;rw[bindF_eq e1,bindF_eq e2]⟩
 have u1:Z1.abs≤3003:=by have:=abs_add_le (Z1-((cx:Rat)+D.re)) ((cx:Rat)+D.re);rw[show Z1-((cx:Rat)+D.re)+((cx:Rat)+D.re)=Z1 by grind]at this;grind
 have u2:Z2.abs≤3003:=by have:=abs_add_le (Z2-((cy:Rat)+D.im)) ((cy:Rat)+D.im);rw[show Z2-((cy:Rat)+D.im)+((cy:Rat)+D.im)=Z2 by grind]at this;grind
 exact(nm_parts (a:=⟨Z1,Z2⟩) u1 u2).mono (by decide +kernel)
theorem seen_from {z1 z2:Nat} {Z:Cp} (ha:IsC a1 a2 ax ay) (b1:ax.natAbs≤1000) (b2:ay.natAbs≤1000) (bc1:cx.natAbs≤1000) (bc2:cy.natAbs≤1000) (R1:1≤R) (R2:R≤2000) (dD:Nm D (1001/1000*R)) (hZ:IsZ z1 z2 Z) (nZ:Nm Z 10000)
  (r1:(Z.re-((cx:Rat)+D.re)).abs≤eps/4*(1002*R)) (r2:(Z.im-((cy:Rat)+D.im)).abs≤eps/4*(1002*R)):
  ∃ e1 e2 E,Seen a1 a2 z1 z2 e1 e2 E Z∧Nm E 8000∧Nm (Cp.of R⁻¹*E-(Cp.of R⁻¹*D-Cp.of R⁻¹*gz (ax-cx) (ay-cy))) (1127*eps):=by
 have o3:(((1000:Nat):Int):Rat)=1000:=rfl; have n1:=int_abs_le (n:=cx) (N:=1000) bc1; have n2:=int_abs_le (n:=cy) (N:=1000) bc2; have m1:=int_abs_le (n:=ax) (N:=1000) b1; have m2:=int_abs_le (n:=ay) (N:=1000) b2
 rw[o3]at n1 n2 m1 m2
 have ep:=eps_pos; have et:=eps_tiny; have d1:=dD.re; have d2:=dD.im; have bb:eps/4*(1002*R)≤1/1000*R:=by
  have:=Rat.mul_le_mul_of_nonneg_right et (show 0≤1002*R by grind)
  grind
 have p1:=seen_part R1 R2 bb r1 n1 d1 m1; have p2:=seen_part R1 R2 bb r2 n2 d2 m2
 obtain⟨e1,E1,f1,i1,q1⟩:=sub_is hZ.1 ha.1 (lt_big (by grind))
 obtain⟨e2,E2,f2,i2,q2⟩:=sub_is hZ.2 ha.2 (lt_big (by grind))
 have hB:(2:Rat)^(-1000:Int)≤2003*R:=Rat.le_trans p1000_le (by grind); have g1:=rnd_q q1 p1.1 hB; have g2:=rnd_q q2 p2.1 hB; have b2002:eps/4*(2003*R)≤1/1000*R:=by
  have:=Rat.mul_le_mul_of_nonneg_right et (show 0≤2003*R by grind)
  grind
 have w1:=seen_w R2 b2002 g1 p1.2; have w2:=seen_w R2 b2002 g2 p2.2
 refine⟨e1,e2,⟨E1,E2⟩,⟨hZ,nZ.mono (by decide +kernel),fun T K=>by unfold subK;rw[bindF_eq f1,bindF_eq f2],⟨i1,i2⟩⟩,(nm_root (a:=⟨E1,E2⟩) w1 w2).mono (by decide +kernel),?_⟩
 have inv0:0≤R⁻¹:=Rat.le_of_lt (Rat.inv_pos.2 (by grind)); have ri:R⁻¹*R=1:=Rat.inv_mul_cancel _ (by grind); have er:0≤eps*R:=Rat.mul_nonneg (Rat.le_of_lt ep) (by grind); have z1:=seen_fin er inv0 ri r1 g1; have z2:=seen_fin er inv0 ri r2 g2; have cs:((ax-cx:Int):Rat)=(ax:Rat)-(cx:Rat):=by push_cast;rfl
 have cs2:((ay-cy:Int):Rat)=(ay:Rat)-(cy:Rat):=by push_cast;rfl
 have ez:Cp.of R⁻¹*(⟨E1,E2⟩:Cp)-(Cp.of R⁻¹*D-Cp.of R⁻¹*gz (ax-cx) (ay-cy))=⟨R⁻¹*E1-(R⁻¹*D.re-R⁻¹*((ax:Rat)-(cx:Rat))),R⁻¹*E2-(R⁻¹*D.im-R⁻¹*((ay:Rat)-(cy:Rat)))⟩:=by
  rw[Cp.of_mul,Cp.of_mul,Cp.of_mul]
  refine Cp.ext' ?_ ?_
  ·show R⁻¹*E1-(R⁻¹*D.re-R⁻¹*((ax-cx:Int):Rat))=R⁻¹*E1-(R⁻¹*D.re-R⁻¹*((ax:Rat)-(cx:Rat)))
   rw[cs]
  ·show R⁻¹*E2-(R⁻¹*D.im-R⁻¹*((ay-cy:Int):Rat))=R⁻¹*E2-(R⁻¹*D.im-R⁻¹*((ay:Rat)-(cy:Rat)))
   rw[cs2]
 rw[ez]
 exact(nm_root (a:=⟨_,_⟩) z1 z2).mono (by grind)
end
end Go.Vx
