/- A part of the evaluator and of what is told of floats; no conditions. -/
import Derived.Test.YtaogignikkjkjaaGreatVmWD0
import Derived.Test.YtaogignikkjkjaaGreatVmWB6
set_option linter.unusedSectionVars false
set_option linter.unusedSimpArgs false
set_option linter.unusedVariables false
set_option maxRecDepth 1000000
namespace Go.Vx
open Go.Vm Ieee
instance:Inhabited Cp:=⟨Cp.zero⟩
theorem pick {α:Type} [Inhabited α] {n:Nat} {p:Nat→α→Prop} (h:∀ k,k<n→∃ x,p k x):∃ f:Nat→α,∀ k,k<n→p k (f k):=
 ⟨fun k=>if hk:k<n then Classical.choose (h k hk) else default,fun k hk=>by
  simp only[dif_pos hk]
  exact Classical.choose_spec (h k hk)⟩
theorem ft_add {p r s:Rat} (h:r=0∨p≤r) (g:s=0∨p≤s) (r0:0≤r) (s0:0≤s):r+s=0∨p≤r+s:=by grind
theorem ft_sum {p:Rat} {f:Nat→Rat}:∀{n:Nat},(∀ k,k<n→0≤f k∧(f k=0∨p≤f k))→rsm f n=0∨p≤rsm f n
 |0,_=>.inl rfl
 |n+1,h=>ft_add (ft_sum (n:=n) fun k hk=>h k (by omega)) (h n (by omega)).2 (rsm_nonneg fun k hk=>(h k (by omega)).1) (h n (by omega)).1
theorem ft_times {p c r:Rat} (hc:1≤c) (r0:0≤r) (h:r=0∨p≤r):c*r=0∨p≤c*r:=by
 rcases h with h|h
 ·left;rw[h];grind
 ·right
  have:=Rat.mul_le_mul_of_nonneg_right hc r0
  grind
theorem fit_of2 {r:Rat} (h:Fit2 r):Fit r:=by
 rcases h with h|h
 ·exact .inl h
 ·exact .inr (Rat.le_trans (p2_le (by decide)) h)
theorem fit_mul {r s:Rat} (h:Fit2 r) (g:Fit2 s):r*s=0∨(2:Rat)^(-380:Int)≤r*s:=by
 rcases h with h|h
 ·left;rw[h];grind
 rcases g with g|g
 ·left;rw[g];grind
 right; have e:=mul_mono' h g (Rat.le_of_lt (p2_pos _)) (Rat.le_trans (Rat.le_of_lt (p2_pos (-180))) h)
 rw[← p2_add,show (-180+-180:Int)=-360 by decide]at e
 exact Rat.le_trans (p2_le (by decide)) e
theorem sclK_abs {a b c:Nat} {A:Cp} {F r:Rat} (hA:IsZ a b A) (hF:Is c F) (rA:Nm A r) (fB:Fit (r*F.abs)) (hB:r*F.abs≤big200):
  ∃ p q P,IsZ p q P∧Nm (P-Cp.of F*A) (eps/2*(r*F.abs))∧∀(R:Type) (k:Nat→Nat→Option R),sclK R a b c k=k p q:=by
 have ep:=eps_pos; have f0:=abs_nonneg F; have b1:(A.re*F).abs≤r*F.abs:=by
  rw[abs_mul];exact Rat.mul_le_mul_of_nonneg_right rA.re f0
 have b2:(A.im*F).abs≤r*F.abs:=by
  rw[abs_mul];exact Rat.mul_le_mul_of_nonneg_right rA.im f0
 obtain⟨p,X,e1,i1,r1⟩:=mulr_near hA.1 hF b1 fB hB
 obtain⟨q,Y,e2,i2,r2⟩:=mulr_near hA.2 hF b2 fB hB
 refine⟨p,q,⟨X,Y⟩,⟨i1,i2⟩,?_,fun R k=>by unfold sclK;rw[bindF_eq e1,bindF_eq e2]⟩
 have g:=nm_root (a:=(⟨X,Y⟩:Cp)-Cp.of F*A) (r:=eps/4*(r*F.abs)) (by
  rw[Cp.of_mul]
  show (X-F*A.re).abs≤_
  rw[show F*A.re=A.re*F by grind];exact r1) (by
  rw[Cp.of_mul]
  show (Y-F*A.im).abs≤_
  rw[show F*A.im=A.im*F by grind];exact r2)
 refine g.mono ?_
 have:=Rat.mul_nonneg rA.1 f0
 have:=Rat.mul_nonneg (Rat.le_of_lt ep) this
 grind
theorem spd_sum {N:Nat} {v:Nat→Nat×Nat} {V:Nat→Cp} {l:Nat→Rat} (N6:N≤6) (hv:∀ i,i<N→IsZ (v i).1 (v i).2 (V i)) (hl:∀ i,i<N→Nm (V i) (l i)) (fl:∀ i,i<N→Fit2 (l i)) (hb:2*rsm l N≤big200):
  ∃(g:Nat→Nat×Nat) (S:Cp),g 0=(0,0)∧(0<N→g 1=v 0)∧(∀ i,0<i→i<N→Adds (g i) (v i) (g (i+1)))∧IsZ (g N).1 (g N).2 S∧Nm (S-csm V N) (6*eps*rsm l N)∧Nm S (1001/1000*rsm l N):=by
 have ep:=eps_pos; have et:=eps_tiny; have l0:∀ i,i<N→0≤l i:=fun i hi=>(hl i hi).1
 have r0:=rsm_nonneg l0
 obtain⟨g,g0,g1,g2,g3⟩:=sum_words (B:=rsm l N) (by omega) hv hl Rat.le_refl (fit_of2 (ft_sum fun i hi=>⟨l0 i hi,fl i hi⟩)) hb
 obtain⟨S,i1,d⟩:=g3 N (Nat.le_refl N)
 have n6:(N:Rat)≤6:=by exact_mod_cast N6
 have d2:Nm (S-csm V N) (6*eps*rsm l N):=d.mono (by
  have e0:=Rat.mul_nonneg (Rat.le_of_lt ep) r0
  have:=Rat.mul_le_mul_of_nonneg_right n6 e0
  grind)
 refine⟨g,S,g0,g1,g2,i1,d2,(d2.near (nm_csm_rsm hl)).mono ?_⟩
 have:=Rat.mul_le_mul_of_nonneg_right et r0
 grind
theorem len_sum {N:Nat} {w:Nat→Nat} {L:Nat→Rat} (N6:N≤6) (hw:∀ i,i<N→Is (w i) (L i)) (h0:∀ i,i<N→0≤L i) (fl:∀ i,i<N→Fit2 (L i)) (hb:2*rsm L N≤big200):
  ∃(g:Nat→Nat) (S:Rat),g 0=0∧(∀ i,i<N→fbF .add (g i) (w i)=some (g (i+1)))∧Is (g N) S∧(S-rsm L N).abs≤6*eps*rsm L N:=by
 have ep:=eps_pos; have r0:=rsm_nonneg h0
 obtain⟨g,g0,g1,g2⟩:=sum_reals (B:=rsm L N) (by omega) hw h0 Rat.le_refl (fit_of2 (ft_sum fun i hi=>⟨h0 i hi,fl i hi⟩)) hb
 obtain⟨S,i1,d⟩:=g2 N (Nat.le_refl N)
 have n6:(N:Rat)≤6:=by exact_mod_cast N6
 refine⟨g,S,g0,g1,i1,?_⟩
 have e0:=Rat.mul_nonneg (Rat.le_of_lt ep) r0
 have:=Rat.mul_le_mul_of_nonneg_right n6 e0
 grind
theorem times_is {a b:Nat} {D:Cp} (h:IsZ a b D):∃ t,IsZ t a (Cp.I*D)∧∀(R:Type) (k:Nat→Nat→Option R),timesK R a b k=k t a:=
 ⟨_,⟨by
  have:=neg_is h.2
  rw[show (Cp.I*D).re=-D.im by show 0*D.re-1*D.im=_;grind]
  exact this,by
  rw[show (Cp.I*D).im=D.re by show 0*D.im+1*D.re=_;grind]
  exact h.1⟩,fun R k=>by unfold timesK;rw[forceN_eq]⟩
theorem nm_I:Nm Cp.I 1:=⟨by decide,by show (0:Rat)*0+1*1≤1*1;grind⟩
theorem term_word {u d:Nat×Nat} {U D:Cp} {ρ R:Rat} (iU:IsZ u.1 u.2 U) (iD:IsZ d.1 d.2 D) (nU:Nm U ρ) (fρ:Fit ρ) (bρ:40000*ρ+1≤big200) (nD:Nm D (1001/1000*R)) (R1:1≤R) (R2:R≤2000):
  ∃(q:Nat×Nat) (P:Cp),IsZ q.1 q.2 P∧Nm (P-U*(Cp.I*D)) (1002/1000*eps*(ρ*R))∧Nm P (1002/1000*(ρ*R))∧∀(T:Type) (K:Nat→Nat→Option T),(timesK T d.1 d.2 fun t1 t2=>mulK T u.1 u.2 t1 t2 K)=K q.1 q.2:=by
 have ep:=eps_pos; have et:=eps_tiny
 obtain⟨t,iT,hT⟩:=times_is iD
 have ρ0:=nU.1; have nT:Nm (Cp.I*D) (1001/1000*R):=(nm_I.mul nD).mono (by grind); have pR:=Rat.mul_nonneg ρ0 (show 0≤R by grind); have pb:=Rat.mul_le_mul_of_nonneg_left R2 ρ0
 obtain⟨p,q,P,iP,dP,hP⟩:=mulK_abs iU iT nU nT (by grind) fρ (.inr (Rat.le_trans (Rat.le_trans (p2_le (show (-400:Int)≤0 by decide)) (by rw[Rat.zpow_zero];exact Rat.le_refl)) (show 1≤1001/1000*R by grind)))
 have e0:=Rat.mul_nonneg (Rat.le_of_lt ep) pR; have d2:Nm (P-U*(Cp.I*D)) (1002/1000*eps*(ρ*R)):=dP.mono (by grind)
 refine⟨(p,q),P,iP,d2,(d2.near (nU.mul nT)).mono ?_,fun T K=>by rw[hT,hP]⟩
 have:=Rat.mul_le_mul_of_nonneg_right et pR
 grind
theorem csm_sub_nm {f g:Nat→Cp} {r:Nat→Rat} {n:Nat} (h:∀ k,k<n→Nm (f k-g k) (r k)):Nm (csm f n-csm g n) (rsm r n):=by
 rw[← csm_sub];exact nm_csm_rsm h
theorem fit_380 {r:Rat} (h:r=0∨(2:Rat)^(-380:Int)≤r):Fit r:=by
 rcases h with h|h
 ·exact .inl h
 ·exact .inr (Rat.le_trans (p2_le (by decide)) h)
theorem ft_less {c r:Rat} (hc:1/1000000≤c) (h:r=0∨(2:Rat)^(-380:Int)≤r):Fit (c*r):=by
 rcases h with h|h
 ·left;rw[h];grind
 ·right; have e:=mul_mono' hc h (Rat.le_of_lt (p2_pos (-380))) (Rat.le_trans (by decide +kernel) hc); have e2:(2:Rat)^(-400:Int)=(2:Rat)^(-380:Int)*(2:Rat)^(-20:Int):=by rw[← p2_add];rfl
  rw[e2,p20m]
  have:=p2_pos (-380)
  generalize (2:Rat)^(-380:Int)=p at *
  grind
theorem rsm_congr {f g:Nat→Rat}:∀{n:Nat},(∀ k,k<n→f k=g k)→rsm f n=rsm g n
 |0,_=>rfl
 |n+1,h=>by simp only[rsm];rw[rsm_congr (n:=n) fun k hk=>h k (by omega),h n (by omega)]
theorem two_pi_n {n:Nat} (n1:128≤n) (n2:n≤512):∃ t T τ,fbF .quo 4618760256179416344 (floatOfInt .f64 (n:Int))=some t∧Is t T∧τ*(n:Rat)=pi2V∧(T-τ).abs≤eps/2*τ∧0<τ∧τ≤1/20∧1/100≤τ:=by
 have a1:(128:Rat)≤(n:Rat):=by exact_mod_cast n1
 have a2:(n:Rat)≤512:=by exact_mod_cast n2
 have hn:Is (floatOfInt .f64 (n:Int)) (((n:Int)):Rat):=ofInt_is (by omega); have en:(((n:Nat):Int):Rat)=(n:Rat):=by norm_cast
 rw[en]at hn
 have p1:=pi2_le; have p2:=pi2_ge; have hτ:pi2V/(n:Rat)*(n:Rat)=pi2V:=Rat.div_mul_cancel (by grind); have t1:pi2V/(n:Rat)≤1/20:=div_le (by grind) (by grind); have t2:1/100≤pi2V/(n:Rat):=le_div (by grind) (by grind)
 obtain⟨t,T,e,i,q⟩:=div_is is_pi2 hn (by grind) (lt_22 (abs_le_iff.2 ⟨by grind,by grind⟩))
 refine⟨t,T,_,e,i,hτ,rnd2_q q (abs_le_iff.2 ⟨by grind,Rat.le_refl⟩) (Rat.le_trans p1000_le (by grind)),by grind,t1,t2⟩
theorem round_ineq {e r:Rat} {T τ nn:Rat} (e0:0<e) (e1:e≤1/1000000000000000) (r0:0≤r) (t0:0<τ) (hT:(T-τ).abs≤e/2*τ) (n2:nn≤512) (n0:0≤nn):
  e/2*(1003/1000*r*T.abs)+((T-τ).abs*(1003/1000*r)+τ*(nn*(e*(1002/1000*r))+1002/1000*e*r))≤τ*r*(520*e):=by
 have h:=abs_le_iff.1 hT; have et:=Rat.mul_le_mul_of_nonneg_right e1 (Rat.le_of_lt t0); have Tp:T.abs=T:=Rat.abs_of_nonneg (by grind)
 rw[Tp]
 have T2:T≤1001/1000*τ:=by grind
 have er:=Rat.mul_nonneg (Rat.le_of_lt e0) r0; have a1:=Rat.mul_le_mul_of_nonneg_left T2 er; have a2:=Rat.mul_le_mul_of_nonneg_right hT r0; have a3:=Rat.mul_le_mul_of_nonneg_right n2 (Rat.mul_nonneg er (Rat.le_of_lt t0)); have a4:=Rat.mul_nonneg er (Rat.le_of_lt t0); generalize (T-τ).abs=d at *
 have b1:e/2*(1003/1000*r*T)=1003/2000*(e*r*T):=by grind
 have b2:e*r*(1001/1000*τ)=1001/1000*(e*r*τ):=by grind
 have b3:e/2*τ*r=1/2*(e*r*τ):=by grind
 have b4:τ*(nn*(e*(1002/1000*r))+1002/1000*e*r)=1002/1000*(nn*(e*r*τ))+1002/1000*(e*r*τ):=by grind
 have b5:τ*r*(520*e)=520*(e*r*τ):=by grind
 rw[b1,b4,b5]
 rw[b2]at a1
 rw[b3]at a2
 grind
theorem I_swap (U D:Cp) (R:Rat):U*(Cp.I*(Cp.of R*D))=Cp.I*Cp.of R*(D*U):=by
 refine Cp.ext' ?_ ?_
 ·simp only[Cp.mul_re,Cp.mul_im,Cp.of_re,Cp.of_im];grind
 ·simp only[Cp.mul_re,Cp.mul_im,Cp.of_re,Cp.of_im];grind
theorem round_words {n:Nat} (n1:128≤n) (n2:n≤512) {u d:Nat→Nat×Nat} {U D z:Nat→Cp} {ρ:Nat→Rat} {R m:Rat} (iU:∀ k,k<n→IsZ (u k).1 (u k).2 (U k)) (iD:∀ k,k<n→IsZ (d k).1 (d k).2 (D k)) (nU:∀ k,k<n→Nm (U k) (ρ k)) (fρ:∀ k,k<n→ρ k=0∨(2:Rat)^(-380:Int)≤ρ k)
  (bρ:∀ k,k<n→ρ k≤1000000000000000000000000000000000000000000) (nD:∀ k,k<n→Nm (D k) (1001/1000*R)) (R1:1≤R) (R2:R≤2000) (hm:rsm ρ n=(n:Rat)*m) (hz:∀ k,k<n→D k=Cp.of R*z k):
  ∃(q g:Nat→Nat×Nat) (a b:Nat) (A:Cp),(∀ k,k<n→∀(T:Type) (K:Nat→Nat→Option T),(timesK T (d k).1 (d k).2 fun t1 t2=>mulK T (u k).1 (u k).2 t1 t2 K)=K (q k).1 (q k).2)∧g 0=(0,0)∧(0<n→g 1=q 0)∧(∀ k,0<k→k<n→Adds (g k) (q k) (g (k+1)))∧
   (∀(T:Type) (K:Nat→Nat→Bool→Option T),(bindF (fbF .mul 4611686018427387904 4614256656552045848) fun a=>forceN (floatOfInt .f64 (n:Int)) fun b=>bindF (fbF .quo a b) fun t=>sclK T (g n).1 (g n).2 t fun u v=>FiniteK T u v fun t=>K u v t)=K a b true)∧IsZ a b A∧
   ∃ τ:Rat,τ*(n:Rat)=pi2V∧0<τ∧Nm (A-Cp.of τ*(Cp.I*Cp.of R*csm (fun k=>z k*U k) n)) (pi2V*(R*m)*(520*eps)):=by
 have ep:=eps_pos; have et:=eps_tiny; have a1:(128:Rat)≤(n:Rat):=by exact_mod_cast n1
 have a2:(n:Rat)≤512:=by exact_mod_cast n2
 have p1:=pi2_le; have p2:=pi2_ge; have hb:=big200_eq
 obtain⟨qP,hq⟩:=pick (α:=(Nat×Nat)×Cp) (n:=n) (p:=fun k x=>IsZ x.1.1 x.1.2 x.2∧Nm (x.2-U k*(Cp.I*D k)) (1002/1000*eps*(ρ k*R))∧Nm x.2 (1002/1000*(ρ k*R))∧∀(T:Type) (K:Nat→Nat→Option T),(timesK T (d k).1 (d k).2 fun t1 t2=>mulK T (u k).1 (u k).2 t1 t2 K)=K x.1.1 x.1.2)
  (fun k hk=>by
   obtain⟨q,P,h1,h2,h3,h4⟩:=term_word (iU k hk) (iD k hk) (nU k hk) (fit_380 (fρ k hk)) (by have:=bρ k hk;rw[hb];grind) (nD k hk) R1 R2
   exact⟨(q,P),h1,h2,h3,h4⟩)
 have ρ0:∀ k,k<n→0≤ρ k:=fun k hk=>(nU k hk).1
 have sB:rsm (fun k=>1002/1000*(ρ k*R)) n=1002/1000*(R*((n:Rat)*m)):=by
  rw[← hm,rsm_mul,rsm_congr fun k _=>Rat.mul_comm (ρ k) R,rsm_mul]
 have nm0:0≤(n:Rat)*m:=by rw[← hm];exact rsm_nonneg ρ0
 have nmb:(n:Rat)*m≤512000000000000000000000000000000000000000000:=by
  rw[← hm]
  have:=rsm_mono (f:=ρ) (g:=fun _=>1000000000000000000000000000000000000000000) bρ
  rw[rsm_const]at this
  have:=Rat.mul_le_mul_of_nonneg_right a2 (show (0:Rat)≤1000000000000000000000000000000000000000000 by decide)
  grind
 have r0:0≤R*((n:Rat)*m):=Rat.mul_nonneg (by grind) nm0; have rb:R*((n:Rat)*m)≤2000*512000000000000000000000000000000000000000000:=mul_mono' R2 nmb (by grind) (by grind); have fs:Fit (rsm (fun k=>1002/1000*(ρ k*R)) n):=ft_sum (p:=(2:Rat)^(-400:Int)) fun k hk=>by
  have a:=ft_times (show 1≤1002/1000*R by grind) (ρ0 k hk) (fit_380 (fρ k hk))
  rw[show 1002/1000*R*ρ k=1002/1000*(ρ k*R) by grind]at a
  exact⟨by have:=Rat.mul_nonneg (ρ0 k hk) (show 0≤R by grind);grind,a⟩
 obtain⟨g,g0,g1,g2,g3⟩:=sum_words (q:=fun k=>(qP k).1) (A:=fun k=>(qP k).2) (n:=n) (B:=1002/1000*(R*((n:Rat)*m))) (by omega) (fun k hk=>(hq k hk).1) (fun k hk=>(hq k hk).2.2.1) (by rw[sB];exact Rat.le_refl) (by rw[sB]at fs;exact fs) (by rw[hb];grind)
 obtain⟨SS,iS,dS⟩:=g3 n (Nat.le_refl n)
 have bS:Nm (csm (fun k=>(qP k).2) n) (1002/1000*(R*((n:Rat)*m))):=by rw[← sB];exact nm_csm_rsm fun k hk=>(hq k hk).2.2.1
 have er0:=Rat.mul_nonneg (Rat.le_of_lt ep) r0; have er1:=Rat.mul_le_mul_of_nonneg_right et r0; have ner:=Rat.mul_le_mul_of_nonneg_right a2 er0; have nS:Nm SS (1003/1000*(R*((n:Rat)*m))):=(dS.near bS).mono (by grind); have dT:Nm (csm (fun k=>(qP k).2) n-csm (fun k=>U k*(Cp.I*D k)) n) (1002/1000*eps*(R*((n:Rat)*m))):=by
  have:=csm_sub_nm (r:=fun k=>1002/1000*eps*(ρ k*R)) (fun k hk=>(hq k hk).2.1)
  rw[rsm_mul,rsm_congr fun k _=>Rat.mul_comm (ρ k) R,rsm_mul,hm]at this
  exact this
 obtain⟨t,T,τ,e,iT,ht,dτ,t0,t1,t2⟩:=two_pi_n n1 n2
 have ht4:=abs_le_iff.1 dτ; have eτ:=Rat.mul_le_mul_of_nonneg_right et (Rat.le_of_lt t0); have Tp:T.abs=T:=Rat.abs_of_nonneg (by grind); have T1:T≤1:=by grind
 have T9:9/1000≤T:=by grind
 have fT:Fit (1003/1000*(R*((n:Rat)*m))*T.abs):=by
  rw[Tp]
  have h1:(n:Rat)*m=0∨(2:Rat)^(-380:Int)≤(n:Rat)*m:=by rw[← hm];exact ft_sum fun k hk=>⟨ρ0 k hk,fρ k hk⟩
  have h2:=ft_less (c:=1003/1000*R*T) (by
   have:=mul_mono' (show 1≤1003/1000*R by grind) T9 (by decide +kernel) (by grind)
   grind) h1
  rw[show 1003/1000*(R*((n:Rat)*m))*T=1003/1000*R*T*((n:Rat)*m) by grind]
  exact h2
 obtain⟨a,b,A,iA,dA,hA⟩:=sclK_abs iS iT nS fT (by rw[Tp,hb];have:=mul_mono' (show 1003/1000*(R*((n:Rat)*m))≤1003/1000*(2000*512000000000000000000000000000000000000000000) by grind) T1 (by grind) (by grind);grind)
 refine⟨fun k=>(qP k).1,g,a,b,A,fun k hk=>(hq k hk).2.2.2,g0,g1,g2,fun T' K=>?_,iA,τ,ht,t0,?_⟩
 ·rw[show fbF .mul 4611686018427387904 4614256656552045848=some 4618760256179416344 by decide +kernel]
  show (forceN (floatOfInt .f64 (n:Int)) fun b=>bindF (fbF .quo 4618760256179416344 b) _)=_
  rw[forceN_eq,bindF_eq e,hA,FiniteK_yes iA.1 iA.2]
 ·have e1:csm (fun k=>U k*(Cp.I*D k)) n=Cp.I*Cp.of R*csm (fun k=>z k*U k) n:=by
   rw[csm_mul']
   refine csm_congr fun k hk=>?_
   rw[hz k hk,I_swap]
  rw[← e1]
  have k1:Nm (Cp.of (T-τ)*SS) ((T-τ).abs*(1003/1000*(R*((n:Rat)*m)))):=(nm_of Rat.le_refl).mul nS; have k2:Nm (Cp.of τ*(SS-csm (fun k=>U k*(Cp.I*D k)) n)) (τ*((n:Rat)*(eps*(1002/1000*(R*((n:Rat)*m))))+1002/1000*eps*(R*((n:Rat)*m)))):=(nm_of (by rw[Rat.abs_of_nonneg (Rat.le_of_lt t0)];exact Rat.le_refl)).mul (dS.tri dT); have k3:=dA.add (k1.add k2); have ee:A-Cp.of T*SS+(Cp.of (T-τ)*SS+Cp.of τ*(SS-csm (fun k=>U k*(Cp.I*D k)) n))=A-Cp.of τ*csm (fun k=>U k*(Cp.I*D k)) n:=by
   generalize csm (fun k=>U k*(Cp.I*D k)) n=X; refine Cp.ext' ?_ ?_
   ·simp only[Cp.add_re,Cp.sub_re,Cp.of_mul];grind
   ·simp only[Cp.add_im,Cp.sub_im,Cp.of_mul];grind
  rw[ee]at k3
  refine k3.mono ?_
  have q:=round_ineq ep et r0 t0 dτ a2 (by grind)
  rw[show τ*(R*((n:Rat)*m))*(520*eps)=pi2V*(R*m)*(520*eps) by rw[← ht];grind]at q
  exact q
section
variable {n N:Nat} {z w:Nat→Cp} (hz:Pts rhoP sigP n z) (hw:Pts rhoP sigP n w) (hzw:∀ k,k<n→z k*w k=Cp.one) (hn:0<n)
 {s:Nat→Sd} {κ:Nat→Cp} {V:Nat→Nat→Cp} {l:Nat→Nat→Rat} {m:Nat→Rat}
 (hs:∀ i,i<N→Side (s i)) (hE:∀ i,i<N→Elw n z w (s i) (κ i) (V i) (l i) (m i))
include hz hw hzw hn hs hE
theorem z_1001 {k:Nat} (hk:k<n):Nm (z k) (1001/1000):=(hz.at_ k hk).mono (by have:=rho_in;grind)
theorem sl_0 {k:Nat} (hk:k<n):0≤rsm (fun i=>l i k) N:=rsm_nonneg fun i hi=>((hE i hi).len k hk).1
theorem int_near {S:Nat→Cp} (hS:∀ k,k<n→Nm (S k-csm (fun i=>V i k) N) (6*eps*rsm (fun i=>l i k) N)):
  Nm (csm (fun k=>z k*S k) n-Cp.of (n:Rat)*csm (fun i=>κ i*(s i).intG) N) ((n:Rat)*(271/1000000000000*rsm m N)):=by
 have ep:=eps_pos; have et:=eps_tiny; have a:=ring_int hz hw hzw hn hs hE; have b:Nm (csm (fun k=>z k*S k) n-csm (fun k=>z k*csm (fun i=>V i k) N) n) (rsm (fun k=>1001/1000*(6*eps*rsm (fun i=>l i k) N)) n):=csm_sub_nm fun k hk=>by
  rw[← Cp.mul_sub]
  exact(z_1001 hz hw hzw hn hs hE hk).mul (hS k hk)
 rw[rsm_mul,rsm_mul,tot_sum hz hw hzw hn hs hE]at b
 refine(b.tri a).mono ?_
 have m0:=tot_m hz hw hzw hn hs hE; have n0:(0:Rat)≤(n:Rat):=by exact_mod_cast Nat.zero_le n
 have x0:=Rat.mul_nonneg n0 m0
 have:=Rat.mul_le_mul_of_nonneg_right et x0
 unfold cI; grind
theorem sqr_near {S Q:Nat→Cp} {U:Rat} (hS:∀ k,k<n→Nm (S k-csm (fun i=>V i k) N) (6*eps*rsm (fun i=>l i k) N)) (nS:∀ k,k<n→Nm (S k) (1001/1000*rsm (fun i=>l i k) N))
  (hQ:∀ k,k<n→Nm (Q k-S k*S k) (eps*(1001/1000*rsm (fun i=>l i k) N*(1001/1000*rsm (fun i=>l i k) N))))
  (hU:rsm (fun k=>rsm (fun i=>l i k) N*rsm (fun i=>l i k) N) n=(n:Rat)*U):
  Nm (csm (fun k=>z k*Q k) n-Cp.of (n:Rat)*csm (fun i=>csm (fun j=>κ i*κ j*(s i).pairG (s j)) N) N) ((n:Rat)*(2501/10000000000*U)):=by
 have ep:=eps_pos; have et:=eps_tiny; have a:=ring_sq hz hw hzw hn hs hE hU; have b:Nm (csm (fun k=>z k*Q k) n-csm (fun k=>z k*(csm (fun i=>V i k) N*csm (fun i=>V i k) N)) n) (rsm (fun k=>15*eps*(rsm (fun i=>l i k) N*rsm (fun i=>l i k) N)) n):=csm_sub_nm fun k hk=>by
  rw[← Cp.mul_sub]
  have l0:=sl_0 hz hw hzw hn hs hE hk; have t:=tot_len hz hw hzw hn hs hE hk; have h1:=hQ k hk; have h2:=(nS k hk).mul (hS k hk); have h3:=(hS k hk).mul t; have h4:=(h2.add h3); have e:S k*(S k-csm (fun i=>V i k) N)+(S k-csm (fun i=>V i k) N)*csm (fun i=>V i k) N=S k*S k-csm (fun i=>V i k) N*csm (fun i=>V i k) N:=by
   rw[Cp.mul_sub,Cp.sub_mul]
   refine Cp.ext' ?_ ?_
   ·simp only[Cp.add_re,Cp.sub_re];grind
   ·simp only[Cp.add_im,Cp.sub_im];grind
  rw[e]at h4
  have h5:=(z_1001 hz hw hzw hn hs hE hk).mul (h1.tri h4); refine h5.mono ?_; generalize rsm (fun i=>l i k) N=L at *
  have q:=Rat.mul_nonneg (Rat.le_of_lt ep) (Rat.mul_nonneg l0 l0); have e1:eps*(1001/1000*L*(1001/1000*L))=1001/1000*(1001/1000)*(eps*(L*L)):=by grind
  have e2:1001/1000*L*(6*eps*L)=6006/1000*(eps*(L*L)):=by grind
  have e3:6*eps*L*L=6*(eps*(L*L)):=by grind
  have e4:15*eps*(L*L)=15*(eps*(L*L)):=by grind
  rw[e1,e2,e3,e4]
  grind
 rw[rsm_mul,hU]at b
 refine(b.tri a).mono ?_
 have n0:(0:Rat)≤(n:Rat):=by exact_mod_cast Nat.zero_le n
 have x0:0≤(n:Rat)*U:=by rw[← hU];exact rsm_nonneg fun k hk=>Rat.mul_nonneg (sl_0 hz hw hzw hn hs hE hk) (sl_0 hz hw hzw hn hs hE hk)
 have:=Rat.mul_le_mul_of_nonneg_right et x0
 unfold cS; grind
end
theorem round_near {A X G:Cp} {τ R M c d:Rat} {n:Nat} (R1:1≤R) (ht:τ*(n:Rat)=pi2V) (t0:0<τ) (hA:Nm (A-Cp.of τ*(Cp.I*Cp.of R*X)) (pi2V*(R*M)*d)) (hX:Nm (X-Cp.of (n:Rat)*G) ((n:Rat)*(c*M))):
  Nm (A-Cp.of pi2V*(Cp.I*(Cp.of R*G))) (pi2V*(R*M)*(c+d)):=by
 have h:Nm (Cp.of τ*(Cp.I*Cp.of R*(X-Cp.of (n:Rat)*G))) (τ*(1*R*((n:Rat)*(c*M)))):=
  (nm_of (by rw[Rat.abs_of_nonneg (Rat.le_of_lt t0)];exact Rat.le_refl)).mul ((nm_I.mul (nm_of (by rw[Rat.abs_of_nonneg (by grind)];exact Rat.le_refl))).mul hX)
 have k:=hA.add h; have e:A-Cp.of τ*(Cp.I*Cp.of R*X)+Cp.of τ*(Cp.I*Cp.of R*(X-Cp.of (n:Rat)*G))=A-Cp.of pi2V*(Cp.I*(Cp.of R*G)):=by
  rw[← ht]
  refine Cp.ext' ?_ ?_
  ·simp only[Cp.add_re,Cp.sub_re,Cp.sub_im,Cp.mul_re,Cp.mul_im,Cp.of_re,Cp.of_im];grind
  ·simp only[Cp.add_im,Cp.sub_re,Cp.sub_im,Cp.mul_re,Cp.mul_im,Cp.of_re,Cp.of_im];grind
 rw[e]at k
 refine k.mono ?_
 rw[show τ*(1*R*((n:Rat)*(c*M)))=τ*(n:Rat)*(R*(c*M)) by grind,ht]
 grind
theorem res_near {a b:Nat} {Z G:Cp} {R M ε g:Rat} (iZ:IsZ a b Z) (R1:1≤R) (R2:R≤2000) (M0:0≤M) (ε0:0≤ε) (ε1:ε≤1) (g0:1≤g) (g1:g≤1000000) (fM:Fit M) (bM:M≤1000000000000000000000000000000000000000000) (hG:Nm G (g*M)) (hZ:Nm (Z-Cp.of R*G) (R*M*ε)):
  ∃ p q X,IsZ p q X∧Nm (X-Cp.of pi2V*(Cp.I*(Cp.of R*G))) (pi2V*(R*M)*(ε+eps*g))∧(∀(T:Type) (K:Nat→Nat→Option T),(timesK T a b fun p1 p2=>sclK T p1 p2 4618760256179416344 K)=K p q)∧Nm X (8*(R*((g+1)*M))):=by
 have ep:=eps_pos; have et:=eps_tiny; have p1:=pi2_le; have p2:=pi2_ge
 obtain⟨t,iT,hT⟩:=times_is iZ
 have RM:=Rat.mul_nonneg (show 0≤R by grind) M0; have gRM:=Rat.mul_nonneg (show 0≤g by grind) RM; have gR:Nm (Cp.of R*G) (R*(g*M)):=(nm_of (by rw[Rat.abs_of_nonneg (by grind)];exact Rat.le_refl)).mul hG; have εRM:=Rat.mul_le_mul_of_nonneg_left ε1 RM; have nZ:Nm Z (R*((g+1)*M)):=(hZ.near gR).mono (by grind); have nIZ:Nm (Cp.I*Z) (R*((g+1)*M)):=(nm_I.mul nZ).mono (by grind); have pa:pi2V.abs=pi2V:=Rat.abs_of_nonneg (by grind); have c1:1≤R*(g+1)*pi2V:=by
  have a:=mul_mono' R1 (show (1:Rat)≤g+1 by grind) (by decide) (by grind)
  have:=mul_mono' a p2 (by decide) (Rat.mul_nonneg (by grind) (by grind))
  grind
 have fR:Fit (R*((g+1)*M)*pi2V.abs):=by
  rw[pa,show R*((g+1)*M)*pi2V=R*(g+1)*pi2V*M by grind]
  exact ft_times c1 M0 fM
 have big:R*((g+1)*M)*pi2V.abs≤big200:=by
  rw[pa,show R*((g+1)*M)*pi2V=R*(g+1)*pi2V*M by grind,big200_eq]
  have a:=mul_mono' R2 (show g+1≤1000001 by grind) (show 0≤g+1 by grind) (show (0:Rat)≤2000 by decide); have b:=mul_mono' a p1 (show 0≤pi2V by grind) (show (0:Rat)≤2000*1000001 by decide +kernel); have c:=mul_mono' b bM M0 (show (0:Rat)≤2000*1000001*(63/10) by decide +kernel); exact Rat.le_trans c (by decide +kernel)
 obtain⟨p,q,X,iX,dX,hX⟩:=sclK_abs iT is_pi2 nIZ fR big
 have k:Nm (Cp.of pi2V*(Cp.I*(Z-Cp.of R*G))) (pi2V*(1*(R*M*ε))):=(nm_of (by rw[pa];exact Rat.le_refl)).mul (nm_I.mul hZ); have e:X-Cp.of pi2V*(Cp.I*Z)+Cp.of pi2V*(Cp.I*(Z-Cp.of R*G))=X-Cp.of pi2V*(Cp.I*(Cp.of R*G)):=by
  generalize Cp.of R*G=Y; refine Cp.ext' ?_ ?_
  ·simp only[Cp.add_re,Cp.sub_re,Cp.sub_im,Cp.mul_re,Cp.mul_im,Cp.of_re,Cp.of_im];grind
  ·simp only[Cp.add_im,Cp.sub_re,Cp.sub_im,Cp.mul_re,Cp.mul_im,Cp.of_re,Cp.of_im];grind
 have k2:=dX.add k
 rw[e]at k2
 refine⟨p,q,X,iX,k2.mono ?_,fun T K=>by rw[hT,hX],?_⟩
 ·rw[pa]
  have x0:=Rat.mul_nonneg (show 0≤pi2V by grind) (Rat.mul_nonneg (Rat.le_of_lt ep) gRM); have x1:=Rat.mul_nonneg (show 0≤pi2V by grind) (Rat.mul_nonneg (Rat.le_of_lt ep) (Rat.mul_nonneg (show 0≤g-1 by grind) RM)); generalize pi2V=P at *
  grind
 ·have h3:=(dX.near ((nm_of (x:=pi2V) (r:=pi2V) (by rw[pa];exact Rat.le_refl)).mul nIZ)); refine h3.mono ?_
  rw[pa]
  have y0:0≤R*((g+1)*M):=nZ.1; have y1:=Rat.mul_le_mul_of_nonneg_right et (Rat.mul_nonneg y0 (show 0≤pi2V by grind)); have y2:=Rat.mul_le_mul_of_nonneg_left p1 y0; generalize R*((g+1)*M)=Y at *
  generalize pi2V=P at *
  grind
theorem mean_words {n:Nat} (n1:128≤n) (n2:n≤512) {q:Nat→Nat} {A:Nat→Rat} {m:Rat} (hA:∀ k,k<n→Is (q k) (A k)) (h0:∀ k,k<n→0≤A k) (fA:∀ k,k<n→A k=0∨(2:Rat)^(-380:Int)≤A k)
  (bA:∀ k,k<n→A k≤1000000000000000000000000000000000000000000) (hm:rsm A n=(n:Rat)*m) {c:Nat} {C τ R:Rat} (iC:Is c C) (ht:τ*(n:Rat)=pi2V*R) (R1:1≤R) (R2:R≤2000) (dC:(C-τ).abs≤eps*τ):
  ∃(g:Nat→Nat) (t:Nat) (T:Rat),g 0=0∧(∀ k,k<n→fbF .add (g k) (q k)=some (g (k+1)))∧fbF .mul (g n) c=some t∧Is t T∧(1-600*eps)*(pi2V*R*m)≤T∧T≤(1+600*eps)*(pi2V*R*m):=by
 have ep:=eps_pos; have et:=eps_tiny; have a1:(128:Rat)≤(n:Rat):=by exact_mod_cast n1
 have a2:(n:Rat)≤512:=by exact_mod_cast n2
 have p1:=pi2_le; have p2:=pi2_ge; have hb:=big200_eq; have nm0:0≤(n:Rat)*m:=by rw[← hm];exact rsm_nonneg h0
 have nmb:(n:Rat)*m≤512000000000000000000000000000000000000000000:=by
  rw[← hm]
  have:=rsm_mono (f:=A) (g:=fun _=>1000000000000000000000000000000000000000000) bA
  rw[rsm_const]at this
  have:=Rat.mul_le_mul_of_nonneg_right a2 (show (0:Rat)≤1000000000000000000000000000000000000000000 by decide)
  grind
 have fs:rsm A n=0∨(2:Rat)^(-380:Int)≤rsm A n:=ft_sum fun k hk=>⟨h0 k hk,fA k hk⟩
 obtain⟨g,g0,g1,g2⟩:=sum_reals (B:=rsm A n) (by omega) hA h0 Rat.le_refl (fit_380 fs) (by rw[hm,hb];grind)
 obtain⟨S,iS,dS⟩:=g2 n (Nat.le_refl n)
 rw[hm]at dS fs
 generalize hx:(n:Rat)*m=x at *
 have ex:=Rat.mul_nonneg (Rat.le_of_lt ep) nm0; have nex:=Rat.mul_le_mul_of_nonneg_right a2 ex; have eex:=Rat.mul_le_mul_of_nonneg_right et nm0; have dS2:(S-x).abs≤512*(eps*x):=Rat.le_trans dS nex; have s:=abs_le_iff.1 dS2; have tn:0<τ*(n:Rat):=by rw[ht];exact Rat.mul_pos (by grind) (by grind)
 have t0:0<τ:=by
  refine Rat.not_le.1 fun h=>?_
  have:=Rat.mul_le_mul_of_nonneg_right h (show (0:Rat)≤(n:Rat) by grind)
  grind
 have tn2:6≤τ*(n:Rat):=by
  rw[ht]
  have:=mul_mono' p2 R1 (by decide) (by grind)
  grind
 have t1:1/100≤τ:=by
  refine Rat.not_lt.1 fun h=>?_
  have:=mul_mono' (Rat.le_of_lt h) a2 (show (0:Rat)≤(n:Rat) by grind) (by decide +kernel)
  grind
 have t2:τ≤1000:=by
  refine Rat.not_lt.1 fun h=>?_
  have b:=mul_mono' (Rat.le_of_lt h) a1 (by decide) (by grind)
  have:=mul_mono' p1 R2 (show 0≤R by grind) (by decide +kernel)
  grind
 have dc:=abs_le_iff.1 dC; have eτ:=Rat.mul_le_mul_of_nonneg_right et (Rat.le_of_lt t0); have C0:0≤C:=by grind
 have C1:1/1000≤C:=by grind
 have C2:C≤2000:=by grind
 have S0:0≤S:=by grind
 have S1:S≤1001/1000*x:=by grind
 have Sa:(S*C).abs≤1001/1000*C*x:=by
  rw[Rat.abs_of_nonneg (Rat.mul_nonneg S0 C0)]
  have:=Rat.mul_le_mul_of_nonneg_right S1 C0
  grind
 obtain⟨t,T,e,iT,dT⟩:=mulr_near iS iC Sa (ft_less (by grind) fs) (by
  have:=mul_mono' (show 1001/1000*C≤3000 by grind) nmb (by grind) (by decide)
  rw[hb];grind)
 have e1:pi2V*R*m=τ*x:=by rw[← ht,← hx];grind
 refine⟨g,t,T,g0,g1,e,iT,?_⟩
 rw[e1]
 have d:=abs_le_iff.1 dT; have Cx:=Rat.mul_nonneg C0 nm0; have v1:=Rat.mul_le_mul_of_nonneg_right dc.1 S0; have v2:=Rat.mul_le_mul_of_nonneg_right dc.2 S0; have w1:=Rat.mul_le_mul_of_nonneg_left s.1 (Rat.le_of_lt t0); have w2:=Rat.mul_le_mul_of_nonneg_left s.2 (Rat.le_of_lt t0); have u1:=Rat.mul_le_mul_of_nonneg_right (show C≤1001/1000*τ by grind) (Rat.mul_nonneg (Rat.le_of_lt ep) nm0); have u2:=Rat.mul_le_mul_of_nonneg_left S1 (Rat.mul_nonneg (Rat.le_of_lt ep) (Rat.le_of_lt t0)); have y0:=Rat.mul_nonneg (Rat.mul_nonneg (Rat.le_of_lt ep) (Rat.le_of_lt t0)) nm0; clear Sa dT hm hA h0 fA bA fs g0 g1 g2 dS dS2 iS iC iT e hx nmb; constructor<;>grind
theorem two_pi_R {n r:Nat} {R:Rat} (n1:128≤n) (n2:n≤512) (hr:Is r R) (R1:1≤R) (R2:R≤2000):∃ a c C τ,fbF .mul 4618760256179416344 r=some a∧fbF .quo a (floatOfInt .f64 (n:Int))=some c∧Is c C∧τ*(n:Rat)=pi2V*R∧(C-τ).abs≤eps*τ:=by
 have ep:=eps_pos; have et:=eps_tiny; have a1:(128:Rat)≤(n:Rat):=by exact_mod_cast n1
 have a2:(n:Rat)≤512:=by exact_mod_cast n2
 have p1:=pi2_le; have p2:=pi2_ge; have hn:Is (floatOfInt .f64 (n:Int)) (((n:Int)):Rat):=ofInt_is (by omega); have en:(((n:Nat):Int):Rat)=(n:Rat):=by norm_cast
 rw[en]at hn
 have x1:=mul_mono' p2 R1 (by decide) (by grind); have x2:=mul_mono' p1 R2 (show 0≤R by grind) (by decide +kernel)
 obtain⟨a,A,ea,ia,qa⟩:=mul_is is_pi2 hr (lt_big (abs_le_iff.2 ⟨by grind,by grind⟩))
 have da:=rnd_q qa (B:=pi2V*R) (abs_le_iff.2 ⟨by grind,Rat.le_refl⟩) (Rat.le_trans p1000_le (by grind)); have da':=abs_le_iff.1 da; have ex:=Rat.mul_le_mul_of_nonneg_right et (show 0≤pi2V*R by grind); have A1:5≤A:=by grind
 have A2:A≤20000:=by grind
 have hq:A/(n:Rat)*(n:Rat)=A:=Rat.div_mul_cancel (by grind); have q1:A/(n:Rat)≤200:=div_le (by grind) (by grind); have q2:1/200≤A/(n:Rat):=le_div (by grind) (by grind)
 obtain⟨c,C,ec,ic,qc⟩:=div_is ia hn (by grind) (lt_22 (abs_le_iff.2 ⟨by grind,by grind⟩))
 have dc:=rnd2_q qc (B:=A/(n:Rat)) (abs_le_iff.2 ⟨by grind,Rat.le_refl⟩) (Rat.le_trans p1000_le (by grind)); have ht:pi2V*R/(n:Rat)*(n:Rat)=pi2V*R:=Rat.div_mul_cancel (by grind)
 refine⟨a,c,C,pi2V*R/(n:Rat),ea,ec,ic,ht,?_⟩
 have dq:(A/(n:Rat)-pi2V*R/(n:Rat)).abs≤eps/4*(pi2V*R/(n:Rat)):=by
  have e1:A/(n:Rat)-pi2V*R/(n:Rat)=(A-pi2V*R)*(n:Rat)⁻¹:=by rw[Rat.div_def,Rat.div_def];grind
  have e2:eps/4*(pi2V*R/(n:Rat))=eps/4*(pi2V*R)*(n:Rat)⁻¹:=by rw[Rat.div_def];grind
  have i0:0≤(n:Rat)⁻¹:=Rat.le_of_lt (Rat.inv_pos.2 (by grind))
  rw[e1,e2,abs_mul,Rat.abs_of_nonneg i0]
  exact Rat.mul_le_mul_of_nonneg_right da i0
 have tri:=abs_add_le (C-A/(n:Rat)) (A/(n:Rat)-pi2V*R/(n:Rat))
 rw[show C-A/(n:Rat)+(A/(n:Rat)-pi2V*R/(n:Rat))=C-pi2V*R/(n:Rat) by grind]at tri
 have dq':=abs_le_iff.1 dq; have y0:0≤pi2V*R/(n:Rat):=by rw[Rat.div_def];exact Rat.mul_nonneg (by grind) (Rat.le_of_lt (Rat.inv_pos.2 (by grind)))
 have ey:=Rat.mul_le_mul_of_nonneg_right et y0; clear qc; generalize A/(n:Rat)=a' at *
 generalize pi2V*R/(n:Rat)=b' at *
 have h8:a'≤2*b':=by grind
 have:=Rat.mul_le_mul_of_nonneg_left h8 (show 0≤eps/2 by grind)
 have h9:a'≤1001/1000*b':=by grind
 have:=Rat.mul_le_mul_of_nonneg_left h9 (show 0≤eps/2 by grind)
 grind
theorem is_2m30:Is 4472074429978902528 (1/1073741824):=by
 refine⟨by decide,false,4503599627370496,-82,by decide,?_⟩
 have h:=p2_cancel 82; have e:(2:Rat)^(82:Int)=4835703278458516698824704:=by rw[show (82:Int)=((82:Nat):Int) by rfl,p2_nat];rfl
 rw[e]at h
 have e2:(2:Rat)^(-82:Int)=1/4835703278458516698824704:=by grind
 unfold dv sg
 rw[e2]
 decide +kernel
theorem is_2m20:Is 4517110426252607488 (1/1048576):=by
 refine⟨by decide,false,4503599627370496,-72,by decide,?_⟩
 have h:=p2_cancel 72; have e:(2:Rat)^(72:Int)=4722366482869645213696:=by rw[show (72:Int)=((72:Nat):Int) by rfl,p2_nat];rfl
 rw[e]at h
 have e2:(2:Rat)^(-72:Int)=1/4722366482869645213696:=by grind
 unfold dv sg
 rw[e2]
 decide +kernel
theorem near_fin {a1 a2 x1 x2 t c:Nat} {A X:Cp} {T C e P:Rat} (iA:IsZ a1 a2 A) (iX:IsZ x1 x2 X) (iT:Is t T) (iC:Is c C) (C0:1/10000000000≤C) (C1:C≤1) (T0:0≤T) (hT:T≤(2:Rat)^(290:Int)) (hd:Nm (A-X) e)
  (h0:(A=Cp.zero∧X=Cp.zero)∨(2:Rat)^(-800:Int)≤e) (hM:301/100*e≤C*T):∃ d,fbF .mul c t=some d∧∀(R:Type) (k:Bool→Option R),nearK R a1 a2 x1 x2 d k=k true:=by
 have ep:=eps_pos; have et:=eps_tiny; have CT0:=Rat.mul_nonneg (show 0≤C by grind) T0; have CT1:C*T≤T:=by have:=Rat.mul_le_mul_of_nonneg_right C1 T0;grind
 have hh:(C*T).abs<(2:Rat)^(1023:Int):=by
  rw[Rat.abs_of_nonneg CT0]
  have h1:=p2_half 1023; have h2:=p2_pos (1023-1); have h3:=p2_le (show (290:Int)≤1023-1 by decide); grind
 obtain⟨d,D,ed,iD,q⟩:=mul_is iC iT hh
 refine⟨d,ed,fun R k=>?_⟩
 rcases h0 with ⟨z1,z2⟩|h0
 ·have D0:0≤D:=rnd_nonneg iD q CT0
  rw[z1]at iA
  rw[z2]at iX
  exact near_noughts iA.1 iA.2 iX.1 iX.2 iD D0 k
 ·have e0:0<e:=by have:=p2_pos (-800);grind
  have dq:=rnd_q q (B:=C*T) (by rw[Rat.abs_of_nonneg CT0];exact Rat.le_refl) (by
   have:=p2_le (show (-1000:Int)≤-800 by decide)
   grind)
  have dq':=abs_le_iff.1 dq
  have:=Rat.mul_le_mul_of_nonneg_right et CT0
  refine nearK_yes iA.1 iA.2 iX.1 iX.2 iD (e:=e) hd.re hd.im h0 ?_ ?_ k
  ·have h3:=p2_le (show (290:Int)≤300 by decide); grind
  ·grind
theorem out_nm {E:Cp} {R g:Rat} (R1:1≤R) (h:Ng (Cp.of R⁻¹*E) g):Ng E g:=by
 have Rn:R≠0:=by grind
 refine⟨h.1,?_⟩
 have h2:=h.2
 rw[of_mul_nsq]at h2
 have i0:0≤R⁻¹:=Rat.le_of_lt (Rat.inv_pos.2 (by grind)); have i1:R⁻¹≤1:=by
  have:=Rat.mul_le_mul_of_nonneg_right R1 i0
  rw[Rat.mul_inv_cancel _ Rn]at this
  grind
 have i2:R⁻¹*R⁻¹≤1:=by have:=mul_mono' i1 i1 i0 (by decide);grind
 have:=Rat.mul_le_mul_of_nonneg_right i2 E.nsq_nonneg
 grind
structure FamD (spd:∀ T:Type,Nat→Nat→(Nat→Nat→Int→Option T)→Option T) (F:Cp→Cp) (γ:Cp) (R:Rat) (n:Nat) (zK zM:Nat→Nat×Nat) (z:Nat→Cp) (v vM:Nat→Nat×Nat) (V E:Nat→Cp) (wM:Nat→Nat) (L:Nat→Rat):Prop where
 spdK:∀ k,k<n→∀(T:Type) (K:Nat→Nat→Int→Option T),spd T (zK k).1 (zK k).2 K=K (v k).1 (v k).2 0
 spdM:∀ k,k<n→∀(T:Type) (K:Nat→Nat→Int→Option T),spd T (zM k).1 (zM k).2 K=K (vM k).1 (vM k).2 0
 iV:∀ k,k<n→IsZ (v k).1 (v k).2 (V k)
 len:∀ k,k<n→∀(T:Type) (K:Nat→Option T),lengthK T (vM k).1 (vM k).2 K=K (wM k)
 iL:∀ k,k<n→Is (wM k) (L k)
 L0:∀ k,k<n→0≤L k
 Lb:∀ k,k<n→L k≤200000000000000000
 fL:∀ k,k<n→Fit2 (L k)
 lenV:∀ k,k<n→Nm (V k) (1017/1000*L k)
 near:∀ k,k<n→Nm (Cp.of R⁻¹*E k-(z k-γ)) (1127*eps)
 rl:∀ k,k<n→Rl (V k) (F (E k)) (100*eps)
structure AtP (spd:∀ T:Type,Nat→Nat→(Nat→Nat→Int→Option T)→Option T) (F:Cp→Cp) (g:Rat) (γ:Cp) (R:Rat) (zw:Nat×Nat) (ζ:Cp) (v:Nat×Nat) (V E:Cp):Prop where
 iV:IsZ v.1 v.2 V
 spd:∀(T:Type) (K:Nat→Nat→Int→Option T),spd T zw.1 zw.2 K=K v.1 v.2 0
 nE:Nm E rD
 gE:Ng (Cp.of R⁻¹*E) (29/100000000)
 gE2:Ng E g
 near:Nm (Cp.of R⁻¹*E-(ζ-γ)) (1127*eps)
 rl:Rl V (F E) (100*eps)
theorem fam_of {spd:∀ T:Type,Nat→Nat→(Nat→Nat→Int→Option T)→Option T} {F:Cp→Cp} {g:Rat} {γ:Cp} {R:Rat} {n:Nat} {zK zM:Nat→Nat×Nat} {z zm:Nat→Cp}
  (hlow:∀ V E,Nm E rD→Ng E g→Rl V (F E) (100*eps)→V=Cp.zero∨Ng V ((2:Rat)^(-150:Int))) (hhigh:∀ V E,Nm E rD→Ng E g→Rl V (F E) (100*eps)→Nm V 100000000000000000)
  (hoth:∀ VK VM EK EM l,Rl VK (F EK) (100*eps)→Rl VM (F EM) (100*eps)→Nm (Cp.of R⁻¹*EK-Cp.of R⁻¹*EM) (2300*eps)→Ng (Cp.of R⁻¹*EM) (29/100000000)→Nm VM l→Nm VK (1001/1000*l))
  (hK:∀ k,k<n→∃ v V E,AtP spd F g γ R (zK k) (z k) v V E) (hM:∀ k,k<n→∃ v V E,AtP spd F g γ R (zM k) (zm k) v V E) (near:∀ k,k<n→Nm (z k-zm k) (32*eps)):
  ∃ v vM V E wM L,FamD spd F γ R n zK zM z v vM V E wM L:=by
 have ep:=eps_pos
 obtain⟨f,hf⟩:=pick (α:=(Nat×Nat)×Cp×Cp) (n:=n) (p:=fun k x=>AtP spd F g γ R (zK k) (z k) x.1 x.2.1 x.2.2) (fun k hk=>by
  obtain⟨v,V,E,h⟩:=hK k hk
  exact⟨(v,V,E),h⟩)
 obtain⟨j,hj⟩:=pick (α:=(Nat×Nat)×Cp×Cp×Nat×Rat) (n:=n) (p:=fun k x=>AtP spd F g γ R (zM k) (zm k) x.1 x.2.1 x.2.2.1∧Is x.2.2.2.1 x.2.2.2.2∧0≤x.2.2.2.2∧x.2.2.2.2≤200000000000000000∧Nm x.2.1 (1015/1000*x.2.2.2.2)∧Fit2 x.2.2.2.2∧∀(T:Type) (K:Nat→Option T),lengthK T x.1.1 x.1.2 K=K x.2.2.2.1) (fun k hk=>by
  obtain⟨v,V,E,h⟩:=hM k hk
  obtain⟨wd,L,a,b,c,d,e,q⟩:=len_of h.iV (hhigh V E h.nE h.gE2 h.rl) (by decide +kernel) (Rat.le_trans (show (100000000000000000:Rat)≤(2:Rat)^(60:Int) by rw[show (60:Int)=((60:Nat):Int) by rfl,p2_nat];decide +kernel) (p2_le (by decide))) (hlow V E h.nE h.gE2 h.rl)
  exact⟨(v,V,E,wd,L),h,a,b,by grind,d,e,q⟩)
 refine⟨fun k=>(f k).1,fun k=>(j k).1,fun k=>(f k).2.1,fun k=>(f k).2.2,fun k=>(j k).2.2.2.1,fun k=>(j k).2.2.2.2,?_⟩
 refine⟨fun k hk=>(hf k hk).spd,fun k hk=>(hj k hk).1.spd,fun k hk=>(hf k hk).iV,fun k hk=>(hj k hk).2.2.2.2.2.2,fun k hk=>(hj k hk).2.1,fun k hk=>(hj k hk).2.2.1,fun k hk=>(hj k hk).2.2.2.1,fun k hk=>(hj k hk).2.2.2.2.2.1,fun k hk=>?_,fun k hk=>(hf k hk).near,fun k hk=>(hf k hk).rl⟩
 have a:=hf k hk; have b:=(hj k hk).1; have d:Nm (Cp.of R⁻¹*(f k).2.2-Cp.of R⁻¹*(j k).2.2.1) (2300*eps):=by
  have h:=(a.near.add (near k hk)).add b.near.comm; have e:Cp.of R⁻¹*(f k).2.2-(z k-γ)+(z k-zm k)+(zm k-γ-Cp.of R⁻¹*(j k).2.2.1)=Cp.of R⁻¹*(f k).2.2-Cp.of R⁻¹*(j k).2.2.1:=by
   generalize Cp.of R⁻¹*(f k).2.2=X; generalize Cp.of R⁻¹*(j k).2.2.1=Y; refine Cp.ext' ?_ ?_
   ·simp only[Cp.add_re,Cp.sub_re];grind
   ·simp only[Cp.add_im,Cp.sub_im];grind
  rw[e]at h
  exact h.mono (by grind)
 refine(hoth _ _ _ _ _ a.rl b.rl d b.gE (hj k hk).2.2.2.2.1).mono ?_
 have:=(hj k hk).2.2.1
 grind
structure EltD (spd:∀ T:Type,Nat→Nat→(Nat→Nat→Int→Option T)→Option T) (n:Nat) (zK zM:Nat→Nat×Nat) (z w:Nat→Cp) (s:Sd) (κ:Cp) (v vM:Nat→Nat×Nat) (V:Nat→Cp) (wM:Nat→Nat) (L:Nat→Rat):Prop where
 spdK:∀ k,k<n→∀(T:Type) (K:Nat→Nat→Int→Option T),spd T (zK k).1 (zK k).2 K=K (v k).1 (v k).2 0
 spdM:∀ k,k<n→∀(T:Type) (K:Nat→Nat→Int→Option T),spd T (zM k).1 (zM k).2 K=K (vM k).1 (vM k).2 0
 iV:∀ k,k<n→IsZ (v k).1 (v k).2 (V k)
 len:∀ k,k<n→∀(T:Type) (K:Nat→Option T),lengthK T (vM k).1 (vM k).2 K=K (wM k)
 iL:∀ k,k<n→Is (wM k) (L k)
 L0:∀ k,k<n→0≤L k
 Lb:∀ k,k<n→L k≤200000000000000000
 fL:∀ k,k<n→Fit2 (L k)
 side:Side s
 elw:Elw n z w s κ V (fun k=>1017/1000*L k) (rsm (fun k=>1017/1000*L k) n/(n:Rat))
theorem mean_eq {x:Rat} {n:Nat} (hn:0<n):x=(n:Rat)*(x/(n:Rat)):=by
 have:(0:Rat)<(n:Rat):=by exact_mod_cast hn
 rw[Rat.mul_comm,Rat.div_mul_cancel (by grind)]
section
variable {n:Nat} {z w:Nat→Cp} (hz:Pts rhoP sigP n z) (hw:Pts rhoP sigP n w) (hzw:∀ k,k<n→z k*w k=Cp.one) (hn:0<n)
 {zm:Nat→Cp} (near:∀ k,k<n→Nm (z k-zm k) (32*eps)) {R:Rat} (R1:1≤R) {spd:∀ T:Type,Nat→Nat→(Nat→Nat→Int→Option T)→Option T} {zK zM:Nat→Nat×Nat} {γ C:Cp}
include hz hw hzw hn near R1
theorem elt_pole {m:Nat} (hm1:1≤m) (hm:m≤9) (hC:C=Cp.zero∨Ng C (1/10)) (nC:Nm C 20000) (hK:∀ k,k<n→∃ v V E,AtP spd (fun E=>C*E.inv.pw m) (4/10) γ R (zK k) (z k) v V E) (hM:∀ k,k<n→∃ v V E,AtP spd (fun E=>C*E.inv.pw m) (4/10) γ R (zM k) (zm k) v V E):
  ∃ v vM V wM L,(Nm γ (5075/10000)→EltD spd n zK zM z w (.inn γ qB m) (C*(Cp.of R⁻¹).pw m) v vM V wM L)∧(Ng γ (197058/100000)→EltD spd n zK zM z w (.out (repF γ.inv qB m)) (C*(Cp.of R⁻¹).pw m*(-γ.inv).pw m) v vM V wM L):=by
 obtain⟨v,vM,V,E,wM,L,f⟩:=fam_of (F:=fun E=>C*E.inv.pw m) (g:=4/10) (fun V E a b c=>pole_low hm hC a (b.mono (Rat.le_of_lt mD_pos) (by unfold mD;decide +kernel)) c) (fun V E a b c=>(pole_high hm nC b c).mono (by decide +kernel)) (fun VK VM EK EM l a b c d e=>other_pole hm R1 a b c d e) hK hM near
 refine⟨v,vM,V,wM,L,fun h=>?_,fun h=>?_⟩
 ·obtain⟨a,b⟩:=inn_elw hz hw hzw hn R1 hm1 hm f.near f.rl f.lenV (mean_eq hn) h
  exact⟨f.spdK,f.spdM,f.iV,f.len,f.iL,f.L0,f.Lb,f.fL,a,b⟩
 ·obtain⟨a,b⟩:=out_elw hz hw hzw hn R1 hm1 hm f.near f.rl f.lenV (mean_eq hn) h
  exact⟨f.spdK,f.spdM,f.iV,f.len,f.iL,f.L0,f.Lb,f.fL,a,b⟩
theorem elt_corner {m:Nat} (hm:m≤3) (hC:C=Cp.zero∨Ng C (1/10)) (nC:Nm C 20000) (hK:∀ k,k<n→∃ v V E,AtP spd (fun E=>C*E.pw m) (1/8192/8192) γ R (zK k) (z k) v V E) (hM:∀ k,k<n→∃ v V E,AtP spd (fun E=>C*E.pw m) (1/8192/8192) γ R (zM k) (zm k) v V E):
  ∃ v vM V wM L,EltD spd n zK zM z w (.out (repL γ (γ.re.abs+γ.im.abs+1/1000) m)) (C*(Cp.of R).pw m) v vM V wM L:=by
 obtain⟨v,vM,V,E,wM,L,f⟩:=fam_of (F:=fun E=>C*E.pw m) (g:=1/8192/8192) (fun V E a b c=>corner_low hm hC b c) (fun V E a b c=>(corner_high hm nC a c).mono (by decide +kernel)) (fun VK VM EK EM l a b c d e=>other_corner (by omega) R1 a b c d e) hK hM near
 obtain⟨a,b⟩:=corner_elw hz hw hzw hn R1 hm rfl f.near f.rl f.lenV (mean_eq hn)
 exact⟨v,vM,V,wM,L,⟨f.spdK,f.spdM,f.iV,f.len,f.iL,f.L0,f.Lb,f.fL,a,b⟩⟩
theorem elt_stream {s1 s2:Nat} (iC:IsZ s1 s2 C) (hC:C=Cp.zero∨Ng C (1/10)) (nC:Nm C 20000) (hsK:∀ k,k<n→∀(T:Type) (K:Nat→Nat→Int→Option T),spd T (zK k).1 (zK k).2 K=K s1 s2 0) (hsM:∀ k,k<n→∀(T:Type) (K:Nat→Nat→Int→Option T),spd T (zM k).1 (zM k).2 K=K s1 s2 0):
  ∃ wM L,EltD spd n zK zM z w (.out (repF Cp.zero qB 0)) C (fun _=>(s1,s2)) (fun _=>(s1,s2)) (fun _=>C) wM L:=by
 obtain⟨wd,L,a,b,c,d,e,q⟩:=len_of iC nC (by decide) (Rat.le_trans (show (20000:Rat)≤(2:Rat)^(60:Int) by rw[show (60:Int)=((60:Nat):Int) by rfl,p2_nat];decide +kernel) (p2_le (by decide))) (by
  rcases hC with h|h
  ·exact .inl h
  ·exact .inr (h.mono (Rat.le_of_lt (p2_pos _)) (Rat.le_trans p2_n150 (by decide +kernel))))
 have hl:∀ k,k<n→Nm C (1017/1000*L):=fun k hk=>d.mono (by grind)
 obtain⟨s1',s2'⟩:=stream_elw (z:=z) (w:=w) (V:=fun _=>C) (l:=fun _=>1017/1000*L) hn (fun k _=>rfl) hl (mean_eq hn)
 exact⟨fun _=>wd,fun _=>L,⟨hsK,hsM,fun k hk=>iC,fun k hk=>q,fun k hk=>a,fun k hk=>b,fun k hk=>by grind,fun k hk=>e,s1',s2'⟩⟩
end
end Go.Vx
