/- A part of the evaluator and of what is told of floats; no conditions. -/
import Derived.Test.YtaogignikkjkjaaGreatVmYA
import Derived.Test.YtaogignikkjkjaaGreatVmWD0
set_option linter.unusedSectionVars false
set_option linter.unusedSimpArgs false
set_option linter.unusedVariables false
set_option maxRecDepth 1000000
namespace Go.Vx
open Go.Vm Ieee
structure Plcs (c1 c2 r:Nat) (cx cy:Int) (R:Rat) (n:Nat) (dK zK dM zM:Nat→Nat×Nat) (DK ZK DM ZM z w zm wm:Nat→Cp):Prop where
 K:∀ k,k<n→Plc c1 c2 cx cy R (dK k) (zK k) (DK k) (ZK k)
 M:∀ k,k<n→Plc c1 c2 cx cy R (dM k) (zM k) (DM k) (ZM k)
 eK:∀ k,z k=Cp.of R⁻¹*DK k
 eM:∀ k,zm k=Cp.of R⁻¹*DM k
 pz:Pts rhoP sigP n z
 pw:Pts rhoP sigP n w
 zw:∀ k,k<n→z k*w k=Cp.one
 mz:∀ k,k<n→Nm (zm k) rhoP
 mw:∀ k,k<n→Nm (wm k) rhoP
 zwm:∀ k,k<n→zm k*wm k=Cp.one
 near:∀ k,k<n→Nm (z k-zm k) (32*eps)
 goK:∀ k,k<n→∀(T:Type) (K:Nat→Nat→Option T),
  (forceN (floatOfInt .f64 (k:Int)) fun a=>bindF (fbF .mul 4611686018427387904 a) fun a=>bindF (fbF .mul a 4614256656552045848) fun a=>forceN (floatOfInt .f64 (n:Int)) fun b=>bindF (fbF .quo a b) fun t=>
   turnK T t fun s c=>bindF (fbF .mul r c) fun x=>bindF (fbF .mul r s) fun y=>K x y)=K (dK k).1 (dK k).2
 goM:∀ k,k<n→∀(T:Type) (K:Nat→Nat→Option T),
  (forceN (floatOfInt .f64 (k:Int)) fun a=>bindF (fbF .mul 4618760256179416344 a) fun a=>forceN (floatOfInt .f64 (n:Int)) fun b=>bindF (fbF .quo a b) fun t=>
   turnK T t fun s c=>bindF (fbF .mul r c) fun x=>bindF (fbF .mul r s) fun y=>K x y)=K (dM k).1 (dM k).2
theorem plcs_of {n:Nat} (n1:128≤n) (n2:n≤512) {c1 c2 r:Nat} {cx cy:Int} {R:Rat} (hc:IsC c1 c2 cx cy) (b1:cx.natAbs≤1000) (b2:cy.natAbs≤1000) (hr:Is r R) (R1:1≤R) (R2:R≤2000):
  ∃ dK zK dM zM DK ZK DM ZM z w zm wm,Plcs c1 c2 r cx cy R n dK zK dM zM DK ZK DM ZM z w zm wm:=by
 have ep:=eps_pos; have et:=eps_tiny
 obtain⟨Q,hQ⟩:∃ Q,Circ Q:=⟨_,⟨rfl⟩⟩
 have hh:(n:Rat)*(Q/(n:Rat))=Q:=(mean_eq (by omega)).symm
 obtain⟨f,hf⟩:=pick (α:=(Nat×Nat)×(Nat×Nat)×Cp×Cp) (n:=n) (p:=fun k x=>Plc c1 c2 cx cy R x.1 x.2.1 x.2.2.1 x.2.2.2∧Nm (Cp.of R⁻¹*x.2.2.1-om ((k:Rat)*(Q/(n:Rat)))) (16*eps)∧∀(T:Type) (K:Nat→Nat→Option T),
  (forceN (floatOfInt .f64 (k:Int)) fun a=>bindF (fbF .mul 4611686018427387904 a) fun a=>bindF (fbF .mul a 4614256656552045848) fun a=>forceN (floatOfInt .f64 (n:Int)) fun b=>bindF (fbF .quo a b) fun t=>
   turnK T t fun s c=>bindF (fbF .mul r c) fun x=>bindF (fbF .mul r s) fun y=>K x y)=K x.1.1 x.1.2) (fun k hk=>by
  obtain⟨d,z,D,Z,h1,h2,h3⟩:=plcK hQ n1 n2 hh hk hc b1 b2 hr R1 R2
  exact⟨(d,z,D,Z),h1,h2,h3⟩)
 obtain⟨j,hj⟩:=pick (α:=(Nat×Nat)×(Nat×Nat)×Cp×Cp) (n:=n) (p:=fun k x=>Plc c1 c2 cx cy R x.1 x.2.1 x.2.2.1 x.2.2.2∧Nm (Cp.of R⁻¹*x.2.2.1-om ((k:Rat)*(Q/(n:Rat)))) (16*eps)∧∀(T:Type) (K:Nat→Nat→Option T),
  (forceN (floatOfInt .f64 (k:Int)) fun a=>bindF (fbF .mul 4618760256179416344 a) fun a=>forceN (floatOfInt .f64 (n:Int)) fun b=>bindF (fbF .quo a b) fun t=>
   turnK T t fun s c=>bindF (fbF .mul r c) fun x=>bindF (fbF .mul r s) fun y=>K x y)=K x.1.1 x.1.2) (fun k hk=>by
  obtain⟨d,z,D,Z,h1,h2,h3⟩:=plcM hQ n1 n2 hh hk hc b1 b2 hr R1 R2
  exact⟨(d,z,D,Z),h1,h2,h3⟩)
 have hz:∀ k,k<n→Nm ((fun k=>Cp.of R⁻¹*(f k).2.2.1) k-om ((k:Rat)*(Q/(n:Rat)))) (16*eps):=fun k hk=>(hf k hk).2.1
 have hm:∀ k,k<n→Nm ((fun k=>Cp.of R⁻¹*(j k).2.2.1) k-om ((k:Rat)*(Q/(n:Rat)))) (16*eps):=fun k hk=>(hj k hk).2.1
 have inv:∀{y:Nat→Cp},(∀ k,k<n→Nm (y k-om ((k:Rat)*(Q/(n:Rat)))) (16*eps))→∀ k,k<n→y k*(fun k=>(y k).inv) k=Cp.one:=fun{y} hy k hk=>by
  refine Cp.inv_mul fun e=>?_
  have a:=om_len (x:=(k:Rat)*(Q/(n:Rat))) (by have:=(kh_abs hQ n1 n2 hh (Nat.le_of_lt hk)).1;grind); have b:Ng (om ((k:Rat)*(Q/(n:Rat)))) (9/10):=⟨by decide +kernel,by
   have:=abs_le_iff.1 a
   have k1:=kP_small.2; have k2:=kp_tiny; generalize kP=x at *
   grind⟩
  have c:=ng_sub b (hy k hk) (by grind)
  rw[show om ((k:Rat)*(Q/(n:Rat)))+(y k-om ((k:Rat)*(Q/(n:Rat))))=y k by
   generalize om ((k:Rat)*(Q/(n:Rat)))=o; exact Cp.ext' (by simp only[Cp.add_re,Cp.sub_re];grind) (by simp only[Cp.add_im,Cp.sub_im];grind)]at c
  have c2:=c.mono (s:=1/2) (by decide +kernel) (by grind)
  have:=c2.2
  rw[e]at this
  exact absurd this (by decide +kernel)
 refine⟨fun k=>(f k).1,fun k=>(f k).2.1,fun k=>(j k).1,fun k=>(j k).2.1,fun k=>(f k).2.2.1,fun k=>(f k).2.2.2,fun k=>(j k).2.2.1,fun k=>(j k).2.2.2,fun k=>Cp.of R⁻¹*(f k).2.2.1,fun k=>(Cp.of R⁻¹*(f k).2.2.1).inv,fun k=>Cp.of R⁻¹*(j k).2.2.1,fun k=>(Cp.of R⁻¹*(j k).2.2.1).inv,?_⟩
 exact⟨fun k hk=>(hf k hk).1,fun k hk=>(hj k hk).1,fun k=>rfl,fun k=>rfl,pts_z hQ n1 n2 hh hz,pts_w hQ n1 n2 hh hz (inv hz),inv hz,fun k hk=>(pts_z hQ n1 n2 hh hm).at_ k hk,fun k hk=>(pts_w hQ n1 n2 hh hm (inv hm)).at_ k hk,inv hm,fun k hk=>((hz k hk).tri (hm k hk).comm).mono (by grind),fun k hk=>(hf k hk).2.2,fun k hk=>(hj k hk).2.2⟩
section
variable {c1 c2 a1 a2 s1 s2 p:Nat} {cx cy X Y S T:Int} {R:Rat} {d z:Nat×Nat} {D Z ζ γ:Cp} (hP:Plc c1 c2 cx cy R d z D Z) (bc1:cx.natAbs≤1000) (bc2:cy.natAbs≤1000) (R1:1≤R) (R2:R≤2000) (eζ:ζ=Cp.of R⁻¹*D) (eγ:γ=Cp.of R⁻¹*gz (X-cx) (Y-cy))
include hP bc1 bc2 R1 R2 eζ eγ
theorem pole_g {E:Cp} (far:Ng (ζ-γ) (49/100)) (h:Nm (Cp.of R⁻¹*E-(ζ-γ)) (1127*eps)):Ng E (4/10):=by
 have ep:=eps_pos; have et:=eps_tiny; have a:=(ng_back R1 far h (by grind) (by unfold mD;grind)).1
 exact(out_nm R1 a).mono (by decide +kernel) (by grind)
theorem atP_doublet {m:Nat} (m1:1≤m) (m8:m≤8) (h:ElD 3 a1 a2 s1 s2 (wrd m) X Y S T) (far:Ng (ζ-γ) (49/100)):
  ∃ v V E,AtP (fun T' z1 z2 K=>spdK T' 3 a1 a2 s1 s2 (wrd m) z1 z2 K) (fun E=>gz (S*-(m:Int)) (T*-(m:Int))*E.inv.pw (m+1)) (4/10) γ R z ζ v V E:=by
 have far':=far; subst eζ eγ
 obtain⟨v,V,E,a,b,c,e,f,g⟩:=at_doublet hP bc1 bc2 R1 R2 m1 m8 h (far.mono (by decide +kernel) (by decide +kernel))
 exact⟨v,V,E,a,b,c,e,pole_g hP bc1 bc2 R1 R2 rfl rfl far' f,f,g⟩
theorem atP_source {k1 k2:Nat} {C:Cp} (hc:∀(R:Type) (k:Nat→Nat→Option R),sclK R s1 s2 4594902181429758083 k=k k1 k2) (iC:IsZ k1 k2 C) (hC:C≠Cp.zero→Ng C (1/10)) (nC:Nm C 20000) (h:ElD 2 a1 a2 s1 s2 p X Y S T) (far:Ng (ζ-γ) (49/100)):
  ∃ v V E,AtP (fun T' z1 z2 K=>spdK T' 2 a1 a2 s1 s2 p z1 z2 K) (fun E=>C*E.inv.pw 1) (4/10) γ R z ζ v V E:=by
 have far':=far; subst eζ eγ
 obtain⟨v,V,E,a,b,c,e,f,g⟩:=at_source hP bc1 bc2 R1 R2 hc iC hC nC h (far.mono (by decide +kernel) (by decide +kernel))
 exact⟨v,V,E,a,b,c,e,pole_g hP bc1 bc2 R1 R2 rfl rfl far' f,f,g⟩
theorem atP_corner {m:Nat} (m1:1≤m) (m4:m≤4) (h:ElD 4 a1 a2 s1 s2 (wrd m) X Y S T) (far:Ng (ζ-γ) (3/10000000)):
  ∃ v V E,AtP (fun T' z1 z2 K=>spdK T' 4 a1 a2 s1 s2 (wrd m) z1 z2 K) (fun E=>gz (S*(m:Int)) (T*(m:Int))*E.pw (m-1)) (1/8192/8192) γ R z ζ v V E:=by
 have far':=far; subst eζ eγ
 obtain⟨v,V,E,a,b,c,e,f,g⟩:=at_corner hP bc1 bc2 R1 R2 m1 m4 h far
 exact⟨v,V,E,a,b,c,e,(out_nm R1 e).mono (by decide +kernel) (by decide +kernel),f,g⟩
end
theorem gz_low {S T:Int}:gz S T=Cp.zero∨Ng (gz S T) (1/10):=by
 by_cases h:gz S T=Cp.zero
 ·exact .inl h
 ·exact .inr ((gz_zero h).mono (by decide +kernel) (by decide +kernel))
open Go.Vm Go.Proofs Ieee
def insB {cx cy r:Int} (S:Sight (fI cx) (fI cy) (fI r)) (h:Th):Bool:=(h.kind == 2 || h.kind == 3) && leF (S.lw h.el) (halfW (fI r))
def spdH (h:Th):∀ T:Type,Nat→Nat→(Nat→Nat→Int→Option T)→Option T:=fun T z1 z2 K=>spdK T h.kind (fI h.x) (fI h.y) (fI h.s) (fI h.t) (fI h.p) z1 z2 K
inductive Dsc (R:Rat) (γ:Cp) (h:Th):Bool→Nat×Nat→Cp→Sd→Cp→Prop where
 |stream (k:h.kind=1):Dsc R γ h false (fI h.s,fI h.t) (gz h.s h.t) (.out (repF Cp.zero qB 0)) (gz h.s h.t)
 |srcI (c:Nat×Nat) (C:Cp) (k:h.kind=2) (hc:∀(T:Type) (K:Nat→Nat→Option T),sclK T (fI h.s) (fI h.t) 4594902181429758083 K=K c.1 c.2) (iC:IsZ c.1 c.2 C) (lC:C=Cp.zero∨Ng C (1/10)) (nC:Nm C 20000) (hγ:Nm γ (5075/10000)):Dsc R γ h true c C (.inn γ qB 1) (C*(Cp.of R⁻¹).pw 1)
 |srcO (c:Nat×Nat) (C:Cp) (k:h.kind=2) (hc:∀(T:Type) (K:Nat→Nat→Option T),sclK T (fI h.s) (fI h.t) 4594902181429758083 K=K c.1 c.2) (iC:IsZ c.1 c.2 C) (lC:C=Cp.zero∨Ng C (1/10)) (nC:Nm C 20000) (hγ:Ng γ (197058/100000)):Dsc R γ h false c C (.out (repF γ.inv qB 1)) (C*(Cp.of R⁻¹).pw 1*(-γ.inv).pw 1)
 |dblI (m:Nat) (k:h.kind=3) (m1:1≤m) (m8:m≤8) (hp:h.p=(m:Int)) (hγ:Nm γ (5075/10000)):Dsc R γ h true (fI h.s,fI h.t) (gz h.s h.t) (.inn γ qB (m+1)) (gz (h.s*-(m:Int)) (h.t*-(m:Int))*(Cp.of R⁻¹).pw (m+1))
 |dblO (m:Nat) (k:h.kind=3) (m1:1≤m) (m8:m≤8) (hp:h.p=(m:Int)) (hγ:Ng γ (197058/100000)):Dsc R γ h false (fI h.s,fI h.t) (gz h.s h.t) (.out (repF γ.inv qB (m+1))) (gz (h.s*-(m:Int)) (h.t*-(m:Int))*(Cp.of R⁻¹).pw (m+1)*(-γ.inv).pw (m+1))
 |cor (m:Nat) (k:h.kind=4) (m1:1≤m) (m4:m≤4) (hp:h.p=(m:Int)):Dsc R γ h false (fI h.s,fI h.t) (gz h.s h.t) (.out (repL γ (γ.re.abs+γ.im.abs+1/1000) (m-1))) (gz (h.s*(m:Int)) (h.t*(m:Int))*(Cp.of R).pw (m-1))
section
variable {cx cy r:Int} {hs:List Th} {n:Int} {S:Sight (fI cx) (fI cy) (fI r)}
theorem far_pole (g:Vm.Good S hs n) {h:Th} (hm:h∈hs) (hk:h.kind=2∨h.kind=3) {z w:Cp} (hz:Nm z rhoP) (hw:Nm w rhoP) (e:z*w=Cp.one):Ng (z-gmm cx cy r h) (49/100):=by
 have one:=z_one hz hw e; have zlow:Ng z (999/1000):=by
  refine⟨by decide +kernel,?_⟩
  have:=abs_le_iff.1 one
  grind
 have zhigh:Nm z (101/100):=hz.mono (by have:=rho_in;grind); rcases sides g hm hk with ⟨_,a⟩|⟨_,a⟩
 ·have:=ng_sub zlow a.neg (by decide +kernel)
  rw[← Cp.sub_eq]at this
  exact this.mono (by decide +kernel) (by decide +kernel)
 ·have:=ng_sub (ng_neg a) zhigh (by decide +kernel)
  rw[show -gmm cx cy r h+z=z-gmm cx cy r h by rw[Cp.sub_eq,Cp.add_comm]]at this
  exact this.mono (by decide +kernel) (by decide +kernel)
theorem gz_20000 {a b:Int} (h1:a.natAbs≤8000) (h2:b.natAbs≤8000):Nm (gz a b) 20000:=(gz_size h1 h2).mono (by decide +kernel)
theorem mul_abs8 {a:Int} {m:Nat} (h:a.natAbs≤1000) (m8:m≤8):(a*-(m:Int)).natAbs≤8000∧(a*(m:Int)).natAbs≤8000:=by
 have e:(a*-(m:Int)).natAbs=a.natAbs*m:=by rw[Int.natAbs_mul,Int.natAbs_neg,Int.natAbs_natCast]
 have e2:(a*(m:Int)).natAbs=a.natAbs*m:=by rw[Int.natAbs_mul,Int.natAbs_natCast]
 have:=Nat.mul_le_mul h m8
 omega
variable {N:Nat} {dK zK dM zM:Nat→Nat×Nat} {DK ZK DM ZM z w zm wm:Nat→Cp}
theorem elt_of (g:Vm.Good S hs n) (hN:0<N) (P:Plcs (fI cx) (fI cy) (fI r) cx cy (r:Rat) N dK zK dM zM DK ZK DM ZM z w zm wm) {h:Th} (hm:h∈hs):
  ∃ c C s κ v vM V wM L,Dsc (r:Rat) (gmm cx cy r h) h (insB S h) c C s κ∧EltD (spdH h) N zK zM z w s κ v vM V wM L:=by
 obtain⟨R1,R2⟩:=r_in g
 have R2':(r:Rat)≤2000:=by grind
 have bc:=smI_le g.c; have f:=g.fine h hm; have b:=f.xy; have E:=eld g hm; have pole:=fun(hk:h.kind=2∨h.kind=3)=>(⟨fun k hk'=>far_pole g hm hk (P.pz.at_ k hk') (P.pw.at_ k hk') (P.zw k hk'),fun k hk'=>far_pole g hm hk (P.mz k hk') (P.mw k hk') (P.zwm k hk')⟩:(∀ k,k<N→Ng (z k-gmm cx cy r h) (49/100))∧(∀ k,k<N→Ng (zm k-gmm cx cy r h) (49/100)))
 rcases kinds g hm with k|k|⟨k,m,m1,m8,hp⟩|⟨k,m,m1,m4,hp⟩
 ·have ib:insB S h=false:=by unfold insB;rw[k];rfl
  obtain⟨wM,L,d⟩:=elt_stream P.pz P.pw P.zw hN P.near R1 (spd:=spdH h) (zK:=zK) (zM:=zM) (isC_z E.hs) gz_low (gz_20000 (Nat.le_trans b.2.2.1 (by decide)) (Nat.le_trans b.2.2.2 (by decide))) (fun i hi T K=>by
   unfold spdH
   rw[k]at E ⊢
   exact at_stream (P.K i hi) bc.1 bc.2 R1 R2' E T K) (fun i hi T K=>by
   unfold spdH
   rw[k]at E ⊢
   exact at_stream (P.M i hi) bc.1 bc.2 R1 R2' E T K)
  rw[ib]
  exact⟨_,_,_,_,_,_,_,wM,L,.stream k,d⟩
 ·obtain⟨far1,far2⟩:=pole (.inl k)
  obtain⟨c1,c2,C,hc,iC,lC,nC,_⟩:=source_const E.hs b.2.2.1 b.2.2.2 is_c (by rw[cV_eq];decide +kernel) (by have:=cV_le';grind)
  have lC':C=Cp.zero∨Ng C (1/10):=by
   by_cases h0:C=Cp.zero
   ·exact .inl h0
   ·exact .inr (lC h0)
  obtain⟨v,vM,V,wM,L,d1,d2⟩:=elt_pole P.pz P.pw P.zw hN P.near R1 (spd:=spdH h) (zK:=zK) (zM:=zM) (γ:=gmm cx cy r h) (C:=C) (m:=1) (by decide) (by decide) lC' nC (fun i hi=>by
   unfold spdH
   rw[k]at E ⊢
   exact atP_source (P.K i hi) bc.1 bc.2 R1 R2' (P.eK i) rfl hc iC lC nC E (far1 i hi)) (fun i hi=>by
   unfold spdH
   rw[k]at E ⊢
   exact atP_source (P.M i hi) bc.1 bc.2 R1 R2' (P.eM i) rfl hc iC lC nC E (far2 i hi))
  rcases sides g hm (.inl k) with ⟨q1,q2⟩|⟨q1,q2⟩
  ·have ib:insB S h=true:=by unfold insB;rw[k,q1];rfl
   rw[ib]
   exact⟨_,_,_,_,v,vM,V,wM,L,.srcI (c1,c2) C k hc iC lC' nC q2,d1 q2⟩
  ·have ib:insB S h=false:=by unfold insB;rw[k,q1];rfl
   rw[ib]
   exact⟨_,_,_,_,v,vM,V,wM,L,.srcO (c1,c2) C k hc iC lC' nC q2,d2 q2⟩
 ·obtain⟨far1,far2⟩:=pole (.inr k)
  have wm':fI h.p=wrd m:=by rw[hp];exact fI_wrd m m1 m8
  have B1:=mul_abs8 b.2.2.1 m8; have B2:=mul_abs8 b.2.2.2 m8
  obtain⟨v,vM,V,wM,L,d1,d2⟩:=elt_pole P.pz P.pw P.zw hN P.near R1 (spd:=spdH h) (zK:=zK) (zM:=zM) (γ:=gmm cx cy r h) (C:=gz (h.s*-(m:Int)) (h.t*-(m:Int))) (m:=m+1) (by omega) (by omega) gz_low (gz_20000 B1.1 B2.1) (fun i hi=>by
   unfold spdH
   rw[k,wm']at E ⊢
   exact atP_doublet (P.K i hi) bc.1 bc.2 R1 R2' (P.eK i) rfl m1 m8 E (far1 i hi)) (fun i hi=>by
   unfold spdH
   rw[k,wm']at E ⊢
   exact atP_doublet (P.M i hi) bc.1 bc.2 R1 R2' (P.eM i) rfl m1 m8 E (far2 i hi))
  rcases sides g hm (.inr k) with ⟨q1,q2⟩|⟨q1,q2⟩
  ·have ib:insB S h=true:=by unfold insB;rw[k,q1];rfl
   rw[ib]
   exact⟨_,_,_,_,v,vM,V,wM,L,.dblI m k m1 m8 hp q2,d1 q2⟩
  ·have ib:insB S h=false:=by unfold insB;rw[k,q1];rfl
   rw[ib]
   exact⟨_,_,_,_,v,vM,V,wM,L,.dblO m k m1 m8 hp q2,d2 q2⟩
 ·have kn:h.kind≠1:=by rw[k];decide
  have wm':fI h.p=wrd m:=by rw[hp];exact fI_wrd m m1 (by omega)
  have B1:=mul_abs8 b.2.2.1 (show m≤8 by omega); have B2:=mul_abs8 b.2.2.2 (show m≤8 by omega); have ib:insB S h=false:=by unfold insB;rw[k];rfl
  obtain⟨v,vM,V,wM,L,d1⟩:=elt_corner P.pz P.pw P.zw hN P.near R1 (spd:=spdH h) (zK:=zK) (zM:=zM) (γ:=gmm cx cy r h) (C:=gz (h.s*(m:Int)) (h.t*(m:Int))) (m:=m-1) (by omega) gz_low (gz_20000 B1.2 B2.2) (fun i hi=>by
   unfold spdH
   rw[k,wm']at E ⊢
   exact atP_corner (P.K i hi) bc.1 bc.2 R1 R2' (P.eK i) rfl m1 m4 E (far_el g hm kn (P.pz.at_ i hi) (P.pw.at_ i hi) (P.zw i hi))) (fun i hi=>by
   unfold spdH
   rw[k,wm']at E ⊢
   exact atP_corner (P.M i hi) bc.1 bc.2 R1 R2' (P.eM i) rfl m1 m4 E (far_el g hm kn (P.mz i hi) (P.mw i hi) (P.zwm i hi)))
  rw[ib]
  exact⟨_,_,_,_,v,vM,V,wM,L,.cor m k m1 m4 hp,d1⟩
end
def Hn (hs:List Th) (i:Nat):Th:=hs.getD i ⟨0,0,0,0,0,0⟩
theorem Hn_get {hs:List Th} {i:Nat} (hi:i<hs.length):hs[i]?=some (Hn hs i):=by
 unfold Hn
 rw[List.getD_eq_getElem?_getD,List.getElem?_eq_getElem hi];rfl
theorem Hn_mem {hs:List Th} {i:Nat} (hi:i<hs.length):Hn hs i∈hs:=List.mem_of_getElem? (Hn_get hi)
theorem nthE_els {hs:List Th} {i:Nat} (hi:i<hs.length):nthE (els hs) i=(Hn hs i).el:=by
 unfold nthE els
 rw[List.getD_eq_getElem?_getD,List.getElem?_map,Hn_get hi];rfl
theorem Within_z {a b:Nat} {Z:Cp} (h:IsZ a b Z) (n:Nm Z 10000) (R:Type) (k:Int→Option R):Go.Vm.plcK R a b k=k 0:=by
 have p:=p40_ge; show WithinK R a b 4787326403894837248 _=_; unfold WithinK WithinB
 rw[withinK_is h.1 (Rat.le_trans n.re (by grind)),forceB_eq]
 simp only
 rw[withinK_is h.2 (Rat.le_trans n.im (by grind)),forceB_eq,forceB_eq]
structure Dat {cx cy r:Int} (S:Sight (fI cx) (fI cy) (fI r)) (hs:List Th) (n:Nat) (dK zK dM zM:Nat→Nat×Nat) (DK ZK DM ZM z w zm wm:Nat→Cp) (c:Th→Nat×Nat) (C:Th→Cp) (s:Th→Sd) (κ:Th→Cp) (v vM:Th→Nat→Nat×Nat) (V:Th→Nat→Cp) (wM:Th→Nat→Nat) (L:Th→Nat→Rat):Prop where
 good:Vm.Good S hs (n:Int)
 P:Plcs (fI cx) (fI cy) (fI r) cx cy (r:Rat) n dK zK dM zM DK ZK DM ZM z w zm wm
 D:∀ h∈hs,Dsc (r:Rat) (gmm cx cy r h) h (insB S h) (c h) (C h) (s h) (κ h)
 E:∀ h∈hs,EltD (spdH h) n zK zM z w (s h) (κ h) (v h) (vM h) (V h) (wM h) (L h)
theorem pickm {α β:Type} [Inhabited β] {l:List α} {p:α→β→Prop} (h:∀ a,a∈l→∃ x,p a x):∃ f:α→β,∀ a,a∈l→p a (f a):=by
 have:=Classical.axiomOfChoice (r:=fun a x=>a∈l→p a x) fun a=>by
  by_cases ha:a∈l
  ·obtain⟨x,hx⟩:=h a ha
   exact⟨x,fun _=>hx⟩
  ·exact⟨default,fun h=>absurd h ha⟩
 exact this
instance:Inhabited Sd:=⟨.out []⟩
theorem dat_of {cx cy r:Int} {S:Sight (fI cx) (fI cy) (fI r)} {hs:List Th} {n:Nat} (g:Vm.Good S hs (n:Int)):
  ∃ dK zK dM zM DK ZK DM ZM z w zm wm c C s κ v vM V wM L,Dat S hs n dK zK dM zM DK ZK DM ZM z w zm wm c C s κ v vM V wM L:=by
 have bc:=smI_le g.c
 obtain⟨R1,R2⟩:=r_in g
 have n1:=g.n1; have n2:=g.n2; have gr1:=g.r1; have gr2:=g.r2
 obtain⟨dK,zK,dM,zM,DK,ZK,DM,ZM,z,w,zm,wm,P⟩:=plcs_of (n:=n) (by omega) (by omega) (c1:=fI cx) (c2:=fI cy) (r:=fI r) (R:=(r:Rat)) ⟨fI_is (by omega),fI_is (by omega)⟩ bc.1 bc.2 (fI_is (by omega)) R1 (by grind)
 obtain⟨f,hf⟩:=pickm (β:=(Nat×Nat)×Cp×Sd×Cp×(Nat→Nat×Nat)×(Nat→Nat×Nat)×(Nat→Cp)×(Nat→Nat)×(Nat→Rat)) (l:=hs)
  (p:=fun h x=>Dsc (r:Rat) (gmm cx cy r h) h (insB S h) x.1 x.2.1 x.2.2.1 x.2.2.2.1∧EltD (spdH h) n zK zM z w x.2.2.1 x.2.2.2.1 x.2.2.2.2.1 x.2.2.2.2.2.1 x.2.2.2.2.2.2.1 x.2.2.2.2.2.2.2.1 x.2.2.2.2.2.2.2.2) (fun h hm=>by
  obtain⟨c,C,s,κ,v,vM,V,wM,L,h1,h2⟩:=elt_of g (by omega) P hm
  exact⟨(c,C,s,κ,v,vM,V,wM,L),h1,h2⟩)
 exact⟨dK,zK,dM,zM,DK,ZK,DM,ZM,z,w,zm,wm,fun h=>(f h).1,fun h=>(f h).2.1,fun h=>(f h).2.2.1,fun h=>(f h).2.2.2.1,fun h=>(f h).2.2.2.2.1,fun h=>(f h).2.2.2.2.2.1,fun h=>(f h).2.2.2.2.2.2.1,fun h=>(f h).2.2.2.2.2.2.2.1,fun h=>(f h).2.2.2.2.2.2.2.2,
  ⟨g,P,fun h hm=>(hf h hm).1,fun h hm=>(hf h hm).2⟩⟩
section
variable {cx cy r:Int} {S:Sight (fI cx) (fI cy) (fI r)} {hs:List Th} {n:Nat} {dK zK dM zM:Nat→Nat×Nat} {DK ZK DM ZM z w zm wm:Nat→Cp} {c:Th→Nat×Nat} {C:Th→Cp} {s:Th→Sd} {κ:Th→Cp} {v vM:Th→Nat→Nat×Nat} {V:Th→Nat→Cp} {wM:Th→Nat→Nat} {L:Th→Nat→Rat}
 (T:Dat S hs n dK zK dM zM DK ZK DM ZM z w zm wm c C s κ v vM V wM L)
def lH (hs:List Th) (L:Th→Nat→Rat) (i k:Nat):Rat:=1017/1000*L (Hn hs i) k
def slH (hs:List Th) (L:Th→Nat→Rat) (k:Nat):Rat:=rsm (fun i=>lH hs L i k) hs.length
def mH (hs:List Th) (L:Th→Nat→Rat) (n i:Nat):Rat:=rsm (fun k=>lH hs L i k) n/(n:Rat)
include T
theorem n_in:128≤n∧n≤512:=by
 have:=T.good.n1
 have:=T.good.n2
 omega
theorem elwH {i:Nat} (hi:i<hs.length):Side (s (Hn hs i))∧Elw n z w (s (Hn hs i)) (κ (Hn hs i)) (V (Hn hs i)) (lH hs L i) (mH hs L n i):=⟨(T.E _ (Hn_mem hi)).side,(T.E _ (Hn_mem hi)).elw⟩
theorem lH_facts {i k:Nat} (hi:i<hs.length) (hk:k<n):0≤lH hs L i k∧lH hs L i k≤203400000000000000∧Fit2 (lH hs L i k):=by
 have e:=T.E _ (Hn_mem hi); have a:=e.L0 k hk; have b:=e.Lb k hk
 exact⟨Rat.mul_nonneg (by decide +kernel) a,by unfold lH;grind,ft_times (by decide +kernel) a (e.fL k hk)⟩
theorem slH_facts {k:Nat} (hk:k<n):0≤slH hs L k∧slH hs L k≤1220400000000000000∧Fit2 (slH hs L k):=by
 have f:=fun i (hi:i<hs.length)=>lH_facts T hi hk
 refine⟨rsm_nonneg fun i hi=>(f i hi).1,?_,ft_sum fun i hi=>⟨(f i hi).1,(f i hi).2.2⟩⟩
 have:=rsm_mono (f:=fun i=>lH hs L i k) (g:=fun _=>203400000000000000) fun i hi=>(f i hi).2.1
 rw[rsm_const]at this
 have n6:(hs.length:Rat)≤6:=by exact_mod_cast T.good.len6
 have:=Rat.mul_le_mul_of_nonneg_right n6 (show (0:Rat)≤203400000000000000 by decide)
 unfold slH; grind
theorem speed_at {k:Nat} (hk:k<n):∃(x:Nat×Nat) (W:Cp),SpdT (els hs) (zK k).1 (zK k).2 x.1 x.2∧IsZ x.1 x.2 W∧Nm (W-csm (fun i=>V (Hn hs i) k) hs.length) (6*eps*slH hs L k)∧Nm W (1001/1000*slH hs L k):=by
 have f:=fun i (hi:i<hs.length)=>lH_facts T hi hk
 have q:=slH_facts T hk
 obtain⟨g,W,g0,g1,g2,iW,d,b⟩:=spd_sum (N:=hs.length) (v:=fun i=>v (Hn hs i) k) (V:=fun i=>V (Hn hs i) k) (l:=fun i=>lH hs L i k) T.good.len6 (fun i hi=>(T.E _ (Hn_mem hi)).iV k hk) (fun i hi=>(T.E _ (Hn_mem hi)).elw.len k hk) (fun i hi=>(f i hi).2.2) (by
  show 2*slH hs L k≤_
  rw[big200_eq];grind)
 have l0:=T.good.len0; have e:=els_length hs
 rw[← e]at g1 g2 iW
 refine⟨_,W,spdT_of (v:=fun i=>v (Hn hs i) k) (by rw[e];exact l0) (fun i hi R K=>?_) (g1 (by rw[e];exact l0)) g2 iW,iW,d,b⟩
 rw[e]at hi
 rw[nthE_els hi]
 exact(T.E _ (Hn_mem hi)).spdK k hk R K
theorem call61 {k:Nat} (hk:k<n) {x:Nat×Nat} (h:SpdT (els hs) (zK k).1 (zK k).2 x.1 x.2):FlatCall Tryz.prog 61 [flowV 0 (els hs).length (els hs).length,.complex .f64 (zK k).1 (zK k).2] ⟨1,[(0,.cells (cellsOf (els hs)) 4)]⟩ (.tuple ⟨[.complex .f64 x.1 x.2,.int .i64 0]⟩):=by
 have e:=els_length hs; have l0:=T.good.len0; have l6:=T.good.len6; exact speed_callW (by omega) (by omega) (fun X hX R K=>by
  unfold els at hX
  obtain⟨h,h1,rfl⟩:=List.mem_map.1 hX
  rw[erE_told (T.good.fine h h1) R K,T.good.chk h h1]) (fun R K=>Within_z (T.P.K k hk).iZ (T.P.K k hk).nZ R K) h
theorem call85:FlatCall Tryz.prog 85 [flowV 0 (els hs).length (els hs).length,ciV (fI cx) (fI cy) (fI r)] ⟨1,[(0,.cells (cellsOf (els hs)) 4)]⟩ (.int .i64 0):=by
 have e:=els_length hs; have l6:=T.good.len6; have gr2:=T.good.r2; refine asked_call (row_cells _).2.1 (check_okE (by omega) fun X hX R K=>?_) (fits_of T.good.c T.good.r1 (by omega)); unfold els at hX
 obtain⟨h,h1,rfl⟩:=List.mem_map.1 hX
 rw[erE_told (T.good.fine h h1) R K,T.good.chk h h1]
theorem gon_is {k:Nat} (hk:k<n) (R:Type) (K:Nat→Nat→Nat→Nat→Option R):gonK (fI r) (fI cx) (fI cy) n k K=K (dK k).1 (dK k).2 (zK k).1 (zK k).2:=by
 have a:=T.P.goK k hk R fun d1 d2=>addK R (fI cx) (fI cy) d1 d2 fun z1 z2=>K d1 d2 z1 z2
 rw[(T.P.K k hk).add]at a
 exact a
end
section
variable {cx cy r:Int} {S:Sight (fI cx) (fI cy) (fI r)} {hs:List Th} {n:Nat} {dK zK dM zM:Nat→Nat×Nat} {DK ZK DM ZM z w zm wm:Nat→Cp} {c:Th→Nat×Nat} {C:Th→Cp} {s:Th→Sd} {κ:Th→Cp} {v vM:Th→Nat→Nat×Nat} {V:Th→Nat→Cp} {wM:Th→Nat→Nat} {L:Th→Nat→Rat}
 (T:Dat S hs n dK zK dM zM DK ZK DM ZM z w zm wm c C s κ v vM V wM L)
def MH (hs:List Th) (L:Th→Nat→Rat) (n:Nat):Rat:=rsm (mH hs L n) hs.length
def UH (hs:List Th) (L:Th→Nat→Rat) (n:Nat):Rat:=rsm (fun k=>slH hs L k*slH hs L k) n/(n:Rat)
def G1 (hs:List Th) (s:Th→Sd) (κ:Th→Cp):Cp:=csm (fun i=>κ (Hn hs i)*(s (Hn hs i)).intG) hs.length
def G2 (hs:List Th) (s:Th→Sd) (κ:Th→Cp):Cp:=csm (fun i=>csm (fun j=>κ (Hn hs i)*κ (Hn hs j)*(s (Hn hs i)).pairG (s (Hn hs j))) hs.length) hs.length
include T
theorem n_pos:0<n:=by have:=n_in T;omega
theorem sl_sum:rsm (slH hs L) n=(n:Rat)*MH hs L n:=tot_sum (V:=fun i=>V (Hn hs i)) (s:=fun i=>s (Hn hs i)) (κ:=fun i=>κ (Hn hs i)) T.P.pz T.P.pw T.P.zw (n_pos T) (fun i hi=>(elwH T hi).1) (fun i hi=>(elwH T hi).2)
theorem U_sum:rsm (fun k=>slH hs L k*slH hs L k) n=(n:Rat)*UH hs L n:=mean_eq (n_pos T)
theorem M_sq:MH hs L n*MH hs L n≤UH hs L n:=mean_sq (n_pos T) (sl_sum T) (U_sum T)
theorem nR:(128:Rat)≤(n:Rat)∧(n:Rat)≤512:=by
 have:=n_in T
 exact⟨by exact_mod_cast this.1,by exact_mod_cast this.2⟩
theorem ft_mean {p x:Rat} {n:Nat} (h:(128:Rat)≤(n:Rat)∧(n:Rat)≤512) (p0:0<p) (h0:(n:Rat)*x=0∨p≤(n:Rat)*x):x=0∨p/512≤x:=by
 rcases h0 with h0|h0
 ·left; rcases Rat.mul_eq_zero.1 h0 with a|a
  ·grind
  ·exact a
 ·right; refine Rat.not_lt.1 fun hl=>?_
  have a:=Rat.mul_lt_mul_of_pos_left hl (show 0<(n:Rat) by grind); have b:=Rat.mul_le_mul_of_nonneg_right h.2 (show 0≤p/512 by grind); grind
theorem M_facts:0≤MH hs L n∧MH hs L n≤1220400000000000000∧(MH hs L n=0∨(2:Rat)^(-200:Int)≤MH hs L n):=by
 have h:=sl_sum T; have hn:=nR T; have f:=fun k (hk:k<n)=>slH_facts T hk
 have x0:0≤(n:Rat)*MH hs L n:=by rw[← h];exact rsm_nonneg fun k hk=>(f k hk).1
 have x1:(n:Rat)*MH hs L n≤(n:Rat)*1220400000000000000:=by
  rw[← h,← rsm_const];exact rsm_mono fun k hk=>(f k hk).2.1
 have x2:(n:Rat)*MH hs L n=0∨(2:Rat)^(-180:Int)≤(n:Rat)*MH hs L n:=by
  rw[← h];exact ft_sum fun k hk=>⟨(f k hk).1,(f k hk).2.2⟩
 refine⟨Rat.not_lt.1 fun hl=>?_,Rat.not_lt.1 fun hl=>?_,?_⟩
 ·have:=Rat.mul_lt_mul_of_pos_left hl (show 0<(n:Rat) by grind)
  grind
 ·have:=Rat.mul_lt_mul_of_pos_left hl (show 0<(n:Rat) by grind)
  grind
 ·rcases ft_mean T hn (p2_pos _) x2 with a|a
  ·exact .inl a
  ·right; refine Rat.le_trans ?_ a; have e:(2:Rat)^(-180:Int)=(2:Rat)^(-200:Int)*(2:Rat)^(20:Int):=by rw[← p2_add];rfl
   rw[e,show (2:Rat)^(20:Int)=1048576 by rw[show (20:Int)=((20:Nat):Int) by rfl,p2_nat];rfl]
   have:=p2_pos (-200)
   generalize (2:Rat)^(-200:Int)=q at *
   grind
theorem U_facts:0≤UH hs L n∧UH hs L n≤1500000000000000000000000000000000000∧(UH hs L n=0∨(2:Rat)^(-390:Int)≤UH hs L n):=by
 have h:=U_sum T; have hn:=nR T; have f:=fun k (hk:k<n)=>slH_facts T hk
 have x0:0≤(n:Rat)*UH hs L n:=by rw[← h];exact rsm_nonneg fun k hk=>Rat.mul_nonneg (f k hk).1 (f k hk).1
 have x1:(n:Rat)*UH hs L n≤(n:Rat)*1500000000000000000000000000000000000:=by
  rw[← h,← rsm_const]
  exact rsm_mono fun k hk=>by
   have:=mul_mono' (f k hk).2.1 (f k hk).2.1 (f k hk).1 (by decide)
   exact Rat.le_trans this (by decide +kernel)
 have x2:(n:Rat)*UH hs L n=0∨(2:Rat)^(-380:Int)≤(n:Rat)*UH hs L n:=by
  rw[← h];exact ft_sum fun k hk=>⟨Rat.mul_nonneg (f k hk).1 (f k hk).1,fit_mul (f k hk).2.2 (f k hk).2.2⟩
 refine⟨Rat.not_lt.1 fun hl=>?_,Rat.not_lt.1 fun hl=>?_,?_⟩
 ·have:=Rat.mul_lt_mul_of_pos_left hl (show 0<(n:Rat) by grind)
  grind
 ·have:=Rat.mul_lt_mul_of_pos_left hl (show 0<(n:Rat) by grind)
  grind
 ·rcases ft_mean T hn (p2_pos _) x2 with a|a
  ·exact .inl a
  ·right; refine Rat.le_trans ?_ a; have e:(2:Rat)^(-380:Int)=(2:Rat)^(-390:Int)*(2:Rat)^(10:Int):=by rw[← p2_add];rfl
   rw[e,show (2:Rat)^(10:Int)=1024 by rw[show (10:Int)=((10:Nat):Int) by rfl,p2_nat];rfl]
   have:=p2_pos (-390)
   generalize (2:Rat)^(-390:Int)=q at *
   grind
theorem Rq:(1:Rat)≤(r:Rat)∧(r:Rat)≤2000:=by
 have:=r_in T.good
 grind
theorem DK_z {k:Nat}:DK k=Cp.of (r:Rat)*z k:=by
 have R1:=(Rq T).1
 rw[T.P.eK,← Cp.mul_assoc,← Cp.of_mul_of,Rat.mul_inv_cancel _ (show (r:Rat)≠0 by grind)]
 exact(Cp.one_mul _).symm
theorem integral_at:∃ a b A,FlatCall Tryz.prog 12 [flowV 0 (els hs).length (els hs).length,ciV (fI cx) (fI cy) (fI r),.int .i64 n] ⟨1,[(0,.cells (cellsOf (els hs)) 4)]⟩ (reV a b 0)∧IsZ a b A∧
  Nm (A-Cp.of pi2V*(Cp.I*(Cp.of (r:Rat)*G1 hs s κ))) (pi2V*((r:Rat)*MH hs L n)*(272/1000000000000)):=by
 have et:=eps_tiny; have ep:=eps_pos
 obtain⟨R1,R2⟩:=Rq T
 obtain⟨n1,n2⟩:=n_in T
 have hn:=n_pos T; have M0:=(M_facts T).1
 obtain⟨f,hf⟩:=pick (α:=(Nat×Nat)×Cp) (n:=n) (p:=fun k x=>SpdT (els hs) (zK k).1 (zK k).2 x.1.1 x.1.2∧IsZ x.1.1 x.1.2 x.2∧Nm (x.2-csm (fun i=>V (Hn hs i) k) hs.length) (6*eps*slH hs L k)∧Nm x.2 (1001/1000*slH hs L k)) (fun k hk=>by
  obtain⟨x,W,h⟩:=speed_at T hk
  exact⟨(x,W),h⟩)
 have hm:rsm (fun k=>1001/1000*slH hs L k) n=(n:Rat)*(1001/1000*MH hs L n):=by
  rw[rsm_mul,sl_sum T];grind
 obtain⟨q,g,a,b,A,hq,g0,g1,g2,hl,iA,τ,ht,t0,dA⟩:=round_words (u:=fun k=>(f k).1) (d:=dK) (U:=fun k=>(f k).2) (D:=DK) (z:=z) (ρ:=fun k=>1001/1000*slH hs L k) (R:=(r:Rat)) (m:=1001/1000*MH hs L n) n1 n2
  (fun k hk=>(hf k hk).2.1) (fun k hk=>(T.P.K k hk).iD) (fun k hk=>(hf k hk).2.2.2) (fun k hk=>ft_times (by decide +kernel) (slH_facts T hk).1 (by
   rcases(slH_facts T hk).2.2 with h|h
   ·exact .inl h
   ·exact .inr (Rat.le_trans (p2_le (by decide)) h))) (fun k hk=>by have:=(slH_facts T hk).2.1;grind) (fun k hk=>(T.P.K k hk).nD) R1 R2 hm (fun k hk=>DK_z T)
 have hab:Abt idK (cellsOf (els hs)) 4 (els hs).length (els hs).length (fI cx) (fI cy) (fI r) n dK zK (fun k=>(f k).1) q:=⟨fun k hk R K=>gon_is T hk R K,fun k hk=>call61 T hk (hf k hk).1,fun k hk R K=>hq k hk R K⟩; have hc:=ab_call (sz:=4) abF49 (row_cells (els hs)).2.1 hab (by omega) (by omega) (call85 T) (sumT_of g0 g1 g2) (x:=(g n).1) (y:=(g n).2) rfl hl
 refine⟨a,b,A,integral_call (row_cells (els hs)).2.1 hc,iA,?_⟩
 have hi:=int_near (s:=fun i=>s (Hn hs i)) (κ:=fun i=>κ (Hn hs i)) (V:=fun i=>V (Hn hs i)) (l:=lH hs L) (m:=mH hs L n) (N:=hs.length) (S:=fun k=>(f k).2) T.P.pz T.P.pw T.P.zw hn (fun i hi=>(elwH T hi).1) (fun i hi=>(elwH T hi).2) (fun k hk=>(hf k hk).2.2.1); have k:=round_near (c:=271/1000000000000) (M:=MH hs L n) (d:=521*eps) R1 ht t0 (dA.mono (by
  have x0:=Rat.mul_nonneg (show 0≤pi2V by have:=pi2_ge;grind) (Rat.mul_nonneg (show 0≤(r:Rat) by grind) M0); have x1:=Rat.mul_nonneg x0 (Rat.le_of_lt ep); grind)) hi
 refine k.mono (Rat.mul_le_mul_of_nonneg_left (by grind) (Rat.mul_nonneg (by have:=pi2_ge;grind) (Rat.mul_nonneg (by grind) M0)))
theorem square_at:∃ a b A,FlatCall Tryz.prog 13 [flowV 0 (els hs).length (els hs).length,ciV (fI cx) (fI cy) (fI r),.int .i64 n] ⟨1,[(0,.cells (cellsOf (els hs)) 4)]⟩ (reV a b 0)∧IsZ a b A∧
  Nm (A-Cp.of pi2V*(Cp.I*(Cp.of (r:Rat)*G2 hs s κ))) (pi2V*((r:Rat)*UH hs L n)*(2502/10000000000)):=by
 have et:=eps_tiny; have ep:=eps_pos
 obtain⟨R1,R2⟩:=Rq T
 obtain⟨n1,n2⟩:=n_in T
 have hn:=n_pos T; have U0:=(U_facts T).1
 obtain⟨f,hf⟩:=pick (α:=(Nat×Nat)×Cp×(Nat×Nat)×Cp) (n:=n) (p:=fun k x=>SpdT (els hs) (zK k).1 (zK k).2 x.1.1 x.1.2∧IsZ x.1.1 x.1.2 x.2.1∧Nm (x.2.1-csm (fun i=>V (Hn hs i) k) hs.length) (6*eps*slH hs L k)∧Nm x.2.1 (1001/1000*slH hs L k)∧
   IsZ x.2.2.1.1 x.2.2.1.2 x.2.2.2∧Nm (x.2.2.2-x.2.1*x.2.1) (eps*(1001/1000*slH hs L k*(1001/1000*slH hs L k)))∧Nm x.2.2.2 (1003/1000*(slH hs L k*slH hs L k))∧∀(R:Type) (K:Nat→Nat→Option R),mulK R x.1.1 x.1.2 x.1.1 x.1.2 K=K x.2.2.1.1 x.2.2.1.2) (fun k hk=>by
  obtain⟨x,W,h1,h2,h3,h4⟩:=speed_at T hk
  have sf:=slH_facts T hk; have fit:=fit_of2 (ft_times (c:=1001/1000) (by decide +kernel) sf.1 sf.2.2); have sq:=mul_mono' sf.2.1 sf.2.1 sf.1 (by decide); have sq0:=Rat.mul_nonneg sf.1 sf.1
  obtain⟨p,q,P,iP,dP,hP⟩:=mulK_abs h2 h2 h4 h4 (by
   have e:16*(1001/1000*slH hs L k*(1001/1000*slH hs L k))+1=16*(1001/1000*(1001/1000))*(slH hs L k*slH hs L k)+1:=by grind
   rw[e,big200_eq]
   generalize slH hs L k*slH hs L k=X at *
   grind) fit fit
  refine⟨(x,W,(p,q),P),h1,h2,h3,h4,iP,dP,(dP.near (h4.mul h4)).mono ?_,hP⟩
  have e:=Rat.mul_le_mul_of_nonneg_right et sq0; generalize slH hs L k=X at *
  grind)
 have hm:rsm (fun k=>1003/1000*(slH hs L k*slH hs L k)) n=(n:Rat)*(1003/1000*UH hs L n):=by
  rw[rsm_mul,U_sum T];grind
 obtain⟨q,g,a,b,A,hq,g0,g1,g2,hl,iA,τ,ht,t0,dA⟩:=round_words (u:=fun k=>(f k).2.2.1) (d:=dK) (U:=fun k=>(f k).2.2.2) (D:=DK) (z:=z) (ρ:=fun k=>1003/1000*(slH hs L k*slH hs L k)) (R:=(r:Rat)) (m:=1003/1000*UH hs L n) n1 n2
  (fun k hk=>(hf k hk).2.2.2.2.1) (fun k hk=>(T.P.K k hk).iD) (fun k hk=>(hf k hk).2.2.2.2.2.2.1) (fun k hk=>ft_times (by decide +kernel) (Rat.mul_nonneg (slH_facts T hk).1 (slH_facts T hk).1) (fit_mul (slH_facts T hk).2.2 (slH_facts T hk).2.2)) (fun k hk=>by
   have sf:=slH_facts T hk
   have:=mul_mono' sf.2.1 sf.2.1 sf.1 (by decide)
   grind) (fun k hk=>(T.P.K k hk).nD) R1 R2 hm (fun k hk=>DK_z T)
 have hab:Abt sqK (cellsOf (els hs)) 4 (els hs).length (els hs).length (fI cx) (fI cy) (fI r) n dK zK (fun k=>(f k).1) q:=⟨fun k hk R K=>gon_is T hk R K,fun k hk=>call61 T hk (hf k hk).1,fun k hk R K=>by
  show mulK R (f k).1.1 (f k).1.2 (f k).1.1 (f k).1.2 (fun u1 u2=>timesK R (dK k).1 (dK k).2 fun t1 t2=>mulK R u1 u2 t1 t2 K)=_
  rw[(hf k hk).2.2.2.2.2.2.2]
  exact hq k hk R K⟩
 have hc:=ab_call (sz:=4) abF50 (row_cells (els hs)).2.1 hab (by omega) (by omega) (call85 T) (sumT_of g0 g1 g2) (x:=(g n).1) (y:=(g n).2) rfl hl
 refine⟨a,b,A,square_call (row_cells (els hs)).2.1 hc,iA,?_⟩
 have hi:=sqr_near (s:=fun i=>s (Hn hs i)) (κ:=fun i=>κ (Hn hs i)) (V:=fun i=>V (Hn hs i)) (l:=lH hs L) (m:=mH hs L n) (N:=hs.length) (S:=fun k=>(f k).2.1) (Q:=fun k=>(f k).2.2.2) (U:=UH hs L n) T.P.pz T.P.pw T.P.zw hn (fun i hi=>(elwH T hi).1) (fun i hi=>(elwH T hi).2) (fun k hk=>(hf k hk).2.2.1) (fun k hk=>(hf k hk).2.2.2.1) (fun k hk=>(hf k hk).2.2.2.2.2.1) (U_sum T); have k:=round_near (c:=2501/10000000000) (M:=UH hs L n) (d:=522*eps) R1 ht t0 (dA.mono (by
  have x0:=Rat.mul_nonneg (show 0≤pi2V by have:=pi2_ge;grind) (Rat.mul_nonneg (show 0≤(r:Rat) by grind) U0); have x1:=Rat.mul_nonneg x0 (Rat.le_of_lt ep); grind)) hi
 refine k.mono (Rat.mul_le_mul_of_nonneg_left (by grind) (Rat.mul_nonneg (by have:=pi2_ge;grind) (Rat.mul_nonneg (by grind) U0)))
end
theorem sq_bounds {x σ θ e:Rat} (x0:0≤x) (e0:0<e) (e1:e≤1/1000000000000000) (h:(σ-x).abs≤6*e*x) (g:(θ-σ*σ).abs≤e/4*(σ*σ)):0≤σ∧(1-20*e)*(x*x)≤θ∧θ≤2*(x*x)∧0≤θ:=by
 have a:=abs_le_iff.1 h; have b:=abs_le_iff.1 g; have ex:=Rat.mul_le_mul_of_nonneg_right e1 x0; have s0:0≤σ:=by grind
 have xx:=Rat.mul_nonneg x0 x0; have exx:=Rat.mul_nonneg (Rat.le_of_lt e0) xx; have eexx:=Rat.mul_le_mul_of_nonneg_right e1 xx; have lo:(1-6*e)*x≤σ:=by grind
 have hi:σ≤(1+6*e)*x:=by grind
 have l0:0≤(1-6*e)*x:=Rat.mul_nonneg (by grind) x0; have s1:=mul_mono' lo lo l0 s0; have s2:=mul_mono' hi hi s0 (by grind); have q1:(1-13*e)*(x*x)≤σ*σ:=by
  have:(1-6*e)*x*((1-6*e)*x)=(1-12*e)*(x*x)+36*(e*(e*(x*x))):=by grind
  have:=Rat.mul_nonneg (Rat.le_of_lt e0) exx
  grind
 have q2:σ*σ≤3/2*(x*x):=by
  have e3:(1+6*e)*x*((1+6*e)*x)=(1+12*e)*(x*x)+36*(e*(e*(x*x))):=by grind
  have:=Rat.mul_le_mul_of_nonneg_right e1 exx
  grind
 have eq2:=Rat.mul_le_mul_of_nonneg_left q2 (Rat.le_of_lt e0); have s3:=Rat.mul_nonneg s0 s0; have es3:=Rat.mul_le_mul_of_nonneg_right e1 s3
 refine⟨s0,?_,?_,?_⟩<;>grind
section
variable {cx cy r:Int} {S:Sight (fI cx) (fI cy) (fI r)} {hs:List Th} {n:Nat} {dK zK dM zM:Nat→Nat×Nat} {DK ZK DM ZM z w zm wm:Nat→Cp} {c:Th→Nat×Nat} {C:Th→Cp} {s:Th→Sd} {κ:Th→Cp} {v vM:Th→Nat→Nat×Nat} {V:Th→Nat→Cp} {wM:Th→Nat→Nat} {L:Th→Nat→Rat}
 (T:Dat S hs n dK zK dM zM DK ZK DM ZM z w zm wm c C s κ v vM V wM L)
def xH (hs:List Th) (L:Th→Nat→Rat) (k:Nat):Rat:=rsm (fun i=>L (Hn hs i) k) hs.length
theorem sl_x (k:Nat):slH hs L k=1017/1000*xH hs L k:=by
 unfold slH xH lH
 rw[rsm_mul]
include T
theorem xH_facts {k:Nat} (hk:k<n):0≤xH hs L k∧xH hs L k≤1200000000000000000∧Fit2 (xH hs L k):=by
 have f:=fun i (hi:i<hs.length)=>T.E _ (Hn_mem hi)
 refine⟨rsm_nonneg fun i hi=>(f i hi).L0 k hk,?_,ft_sum fun i hi=>⟨(f i hi).L0 k hk,(f i hi).fL k hk⟩⟩
 have:=rsm_mono (f:=fun i=>L (Hn hs i) k) (g:=fun _=>200000000000000000) fun i hi=>(f i hi).Lb k hk
 rw[rsm_const]at this
 have n6:(hs.length:Rat)≤6:=by exact_mod_cast T.good.len6
 have:=Rat.mul_le_mul_of_nonneg_right n6 (show (0:Rat)≤200000000000000000 by decide)
 unfold xH; grind
theorem means_at:∃ t u A B,FlatCall Tryz.prog 14 [flowV 0 (els hs).length (els hs).length,ciV (fI cx) (fI cy) (fI r),.int .i64 n] ⟨1,[(0,.cells (cellsOf (els hs)) 4)]⟩ (meV t u)∧Is t A∧Is u B∧
  pi2V*((r:Rat)*MH hs L n)≤10171/10000*A∧pi2V*((r:Rat)*UH hs L n)≤10344/10000*B∧A≤100000000000000000000000000∧B≤100000000000000000000000000000000000000000000:=by
 have et:=eps_tiny; have ep:=eps_pos
 obtain⟨R1,R2⟩:=Rq T
 obtain⟨n1,n2⟩:=n_in T
 have hn:=n_pos T; have nr:=nR T; have M0:=M_facts T; have U0:=U_facts T; have bc:=smI_le T.good.c; have gr1:=T.good.r1; have gr2:=T.good.r2; have len6:=T.good.len6; have len0:=T.good.len0; have el:=els_length hs
 obtain⟨f,hf⟩:=pick (α:=Nat×Nat×Rat×Rat) (n:=n) (p:=fun k x=>(∀(R:Type) (er:Option R) (K:Nat→Option R),meS addK spdK lengthK (nthE (els hs)) (fI cx) (fI cy) (dM k).1 (dM k).2 er K (els hs).length 0 0=K x.1)∧Is x.1 x.2.2.1∧fbF .mul x.1 x.1=some x.2.1∧Is x.2.1 x.2.2.2∧
   (x.2.2.1-xH hs L k).abs≤6*eps*xH hs L k∧(x.2.2.2-x.2.2.1*x.2.2.1).abs≤eps/4*(x.2.2.1*x.2.2.1)) (fun k hk=>by
  have ff:=fun i (hi:i<hs.length)=>T.E _ (Hn_mem hi)
  have xf:=xH_facts T hk
  obtain⟨g,σ,g0,g1,iσ,dσ⟩:=len_sum (N:=hs.length) (w:=fun i=>wM (Hn hs i) k) (L:=fun i=>L (Hn hs i) k) len6 (fun i hi=>(ff i hi).iL k hk) (fun i hi=>(ff i hi).L0 k hk) (fun i hi=>(ff i hi).fL k hk) (by
   show 2*xH hs L k≤_
   rw[big200_eq];grind)
  have dσ':(σ-xH hs L k).abs≤6*eps*xH hs L k:=dσ; have aσ:=abs_le_iff.1 dσ'; have ex:=Rat.mul_le_mul_of_nonneg_right et xf.1; have σ0:0≤σ:=by grind
  have σ1:1/2*xH hs L k≤σ:=by grind
  have σ2:σ≤2*xH hs L k:=by grind
  have sq:=mul_mono' (show σ≤2400000000000000000 by grind) (show σ≤2400000000000000000 by grind) σ0 (by decide); have fσ:Fit (σ*σ):=by
   rcases xf.2.2 with h|h
   ·left
    have:σ=0:=by grind
    rw[this];grind
   ·right; have a:(2:Rat)^(-181:Int)≤σ:=by
     have:=p2_half (-180)
     rw[show (-180-1:Int)=-181 by decide]at this
     grind
    have b:=mul_mono' a a (Rat.le_of_lt (p2_pos _)) σ0
    rw[← p2_add]at b
    exact Rat.le_trans (p2_le (by decide)) b
  obtain⟨q,θ,eq,iθ,dθ⟩:=mulr_near iσ iσ (B:=σ*σ) (by rw[Rat.abs_of_nonneg (Rat.mul_nonneg σ0 σ0)];exact Rat.le_refl) fσ (by rw[big200_eq];grind)
  refine⟨(g hs.length,q,σ,θ),fun R er K=>?_,iσ,eq,iθ,dσ,dθ⟩
  have hm:=meS_of (xs:=els hs) (c1:=fI cx) (c2:=fI cy) (d1:=(dM k).1) (d2:=(dM k).2) (z1:=(zM k).1) (z2:=(zM k).2) (v:=fun i=>vM (Hn hs i) k) (w:=fun i=>wM (Hn hs i) k) (g:=g) (T.P.M k hk).add (fun i hi R K=>by
    rw[el]at hi
    rw[nthE_els hi]
    exact(ff i hi).spdM k hk R K) (fun i hi R K=>by
    rw[el]at hi
    exact(ff i hi).len k hk R K) (fun i hi=>by
    rw[el]at hi
    exact g1 i hi) R er K (els hs).length 0 (by omega)
  rw[g0]at hm
  rw[hm,el])
 have B:=fun k (hk:k<n)=>sq_bounds (xH_facts T hk).1 ep et (hf k hk).2.2.2.2.1 (hf k hk).2.2.2.2.2
 obtain⟨a,cw,Cv,τ,ea,ec,iC,ht,dC⟩:=two_pi_R n1 n2 (fI_is (n:=r) (by omega)) R1 R2
 obtain⟨g1,t,A,a0,a1,a2,iA,loA,hiA⟩:=mean_words (q:=fun k=>(f k).1) (A:=fun k=>(f k).2.2.1) (m:=rsm (fun k=>(f k).2.2.1) n/(n:Rat)) n1 n2 (fun k hk=>(hf k hk).2.1) (fun k hk=>(B k hk).1) (fun k hk=>by
   have xf:=xH_facts T hk; have aσ:=abs_le_iff.1 (hf k hk).2.2.2.2.1; have ex:=Rat.mul_le_mul_of_nonneg_right et xf.1; rcases xf.2.2 with h|h
   ·left;grind
   ·right
    have:=p2_half (-180)
    have q:=p2_le (show (-380:Int)≤-180-1 by decide); grind) (fun k hk=>by
   have xf:=xH_facts T hk; have aσ:=abs_le_iff.1 (hf k hk).2.2.2.2.1; have ex:=Rat.mul_le_mul_of_nonneg_right et xf.1; grind) (mean_eq hn) iC ht R1 R2 dC
 obtain⟨g2,u,Bv,b0,b1,b2,iB,loB,hiB⟩:=mean_words (q:=fun k=>(f k).2.1) (A:=fun k=>(f k).2.2.2) (m:=rsm (fun k=>(f k).2.2.2) n/(n:Rat)) n1 n2 (fun k hk=>(hf k hk).2.2.2.1) (fun k hk=>(B k hk).2.2.2) (fun k hk=>by
   have xf:=xH_facts T hk; have bb:=B k hk; rcases xf.2.2 with h|h
   ·left
    rw[h]at bb
    grind
   ·right; have e:=mul_mono' h h (Rat.le_of_lt (p2_pos _)) xf.1
    rw[← p2_add,show (-180+-180:Int)=-360 by decide]at e
    have h2:=p2_half (-360); have q:=p2_le (show (-380:Int)≤-360-1 by decide); have xx:=Rat.mul_nonneg xf.1 xf.1; have ex:=Rat.mul_le_mul_of_nonneg_right et xx; grind) (fun k hk=>by
   have xf:=xH_facts T hk; have bb:=(B k hk).2.2.1
   have:=mul_mono' xf.2.1 xf.2.1 xf.1 (by decide)
   grind) (mean_eq hn) iC ht R1 R2 dC
 have hmet:Met (els hs) (fI cx) (fI cy) (fI r) n dM (fun k=>(f k).1) (fun k=>(f k).2.1) g1 g2:=⟨fun k hk R K=>T.P.goM k hk R K,fun k hk=>(hf k hk).1,a0,b0,a1,fun k hk=>(hf k hk).2.2.1,b1⟩; have hc:=means_call (sz:=4) (c:=(els hs).length) (by omega) (by omega) hmet (by omega) (t:=t) (u:=u) (fun R K=>by
  rw[bindF_eq ea,forceN_eq,bindF_eq ec,bindF_eq a2,bindF_eq b2])
 have m1:(1-6*eps)*(MH hs L n)≤1017/1000*(rsm (fun k=>(f k).2.2.1) n/(n:Rat)):=by
  have e1:=mean_eq (x:=rsm (fun k=>(f k).2.2.1) n) hn; have e2:=sl_sum T; have e3:rsm (fun k=>(1-6*eps)*slH hs L k) n≤rsm (fun k=>1017/1000*(f k).2.2.1) n:=rsm_mono fun k hk=>by
   have aσ:=abs_le_iff.1 (hf k hk).2.2.2.2.1
   rw[sl_x]
   grind
  rw[rsm_mul,rsm_mul,e2]at e3
  refine Rat.not_lt.1 fun hl=>?_
  have:=Rat.mul_lt_mul_of_pos_left hl (show 0<(n:Rat) by grind)
  grind
 have u1:(1-20*eps)*(UH hs L n)≤1034289/1000000*(rsm (fun k=>(f k).2.2.2) n/(n:Rat)):=by
  have e1:=mean_eq (x:=rsm (fun k=>(f k).2.2.2) n) hn; have e2:=U_sum T; have e3:rsm (fun k=>(1-20*eps)*(slH hs L k*slH hs L k)) n≤rsm (fun k=>1034289/1000000*(f k).2.2.2) n:=rsm_mono fun k hk=>by
   have bb:=(B k hk).2.1
   rw[sl_x]
   grind
  rw[rsm_mul,rsm_mul,e2]at e3
  refine Rat.not_lt.1 fun hl=>?_
  have:=Rat.mul_lt_mul_of_pos_left hl (show 0<(n:Rat) by grind)
  grind
 have m2:rsm (fun k=>(f k).2.2.1) n/(n:Rat)≤2400000000000000000:=div_le (by grind) (by
  have:=rsm_mono (f:=fun k=>(f k).2.2.1) (g:=fun _=>2400000000000000000) (n:=n) fun k hk=>by
   have xf:=xH_facts T hk; have aσ:=abs_le_iff.1 (hf k hk).2.2.2.2.1; have ex:=Rat.mul_le_mul_of_nonneg_right et xf.1; grind
  rw[rsm_const]at this
  grind)
 have u2:rsm (fun k=>(f k).2.2.2) n/(n:Rat)≤3000000000000000000000000000000000000:=div_le (by grind) (by
  have:=rsm_mono (f:=fun k=>(f k).2.2.2) (g:=fun _=>3000000000000000000000000000000000000) (n:=n) fun k hk=>by
   have xf:=xH_facts T hk; have bb:=(B k hk).2.2.1
   have:=mul_mono' xf.2.1 xf.2.1 xf.1 (by decide)
   grind
  rw[rsm_const]at this
  grind)
 have pR0:0≤pi2V*(r:Rat):=Rat.mul_nonneg (by have:=pi2_ge;grind) (by grind); have pR1:pi2V*(r:Rat)≤63/10*2000:=mul_mono' pi2_le R2 (by grind) (by decide +kernel); generalize rsm (fun k=>(f k).2.2.1) n/(n:Rat)=mu at *
 generalize rsm (fun k=>(f k).2.2.2) n/(n:Rat)=nu at *
 refine⟨t,u,A,Bv,hc,iA,iB,?_,?_,?_,?_⟩
 ·have a:=Rat.mul_le_mul_of_nonneg_left m1 pR0; have x0:=Rat.mul_nonneg pR0 M0.1; have ex:=Rat.mul_le_mul_of_nonneg_right et x0; have mu0:0≤mu:=by have:=Rat.mul_le_mul_of_nonneg_right et M0.1;grind
  have y0:=Rat.mul_nonneg pR0 mu0; have ey:=Rat.mul_le_mul_of_nonneg_right et y0; clear hf B hmet hc a1 b1 iA iB iC; grind
 ·have a:=Rat.mul_le_mul_of_nonneg_left u1 pR0; have x0:=Rat.mul_nonneg pR0 U0.1; have ex:=Rat.mul_le_mul_of_nonneg_right et x0; have nu0:0≤nu:=by have:=Rat.mul_le_mul_of_nonneg_right et U0.1;grind
  have y0:=Rat.mul_nonneg pR0 nu0; have ey:=Rat.mul_le_mul_of_nonneg_right et y0; clear hf B hmet hc a1 b1 iA iB iC; grind
 ·have mu0:0≤mu:=by have:=Rat.mul_le_mul_of_nonneg_right et M0.1;grind
  have a:=mul_mono' pR1 m2 mu0 (by decide +kernel); have y0:=Rat.mul_nonneg pR0 mu0; have ey:=Rat.mul_le_mul_of_nonneg_right et y0; clear hf B hmet hc a1 b1 iA iB iC; grind
 ·have nu0:0≤nu:=by have:=Rat.mul_le_mul_of_nonneg_right et U0.1;grind
  have a:=mul_mono' pR1 u2 nu0 (by decide +kernel); have y0:=Rat.mul_nonneg pR0 nu0; have ey:=Rat.mul_le_mul_of_nonneg_right et y0; clear hf B hmet hc a1 b1 iA iB iC; grind
end
end Go.Vx
