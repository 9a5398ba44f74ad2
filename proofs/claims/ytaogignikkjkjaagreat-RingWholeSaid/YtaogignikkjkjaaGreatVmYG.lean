/- A part of the evaluator and of what is told of floats; no conditions. -/
import Derived.Test.YtaogignikkjkjaaGreatVmYA
import Derived.Test.YtaogignikkjkjaaGreatVmYF
set_option linter.unusedSectionVars false
set_option linter.unusedSimpArgs false
set_option linter.unusedVariables false
set_option maxRecDepth 1000000
namespace Go.Vx
open Go.Vm Ieee
theorem ac4 (a b c d:Cp):a*b*(c*d)=a*c*(b*d):=by simp only[Cp.mul_assoc,Cp.mul_left_comm]
def cfG (g:Nat→Nat):Nat→Nat
 |0=>0
 |q+1=>g (q+1)+cfG g q
def cf:Nat→Nat→Nat
 |0,q=>if q=1 then 1 else 0
 |r+1,q=>cfG (cf r) q
def cl:Nat→Nat→Nat
 |0,q=>if q=1 then 1 else 0
 |k+1,0=>0
 |k+1,q+1=>cl k q+cl k (q+1)
theorem cl_zero (k:Nat):cl k 0=0:=by cases k<;>rfl
theorem Fv_nil (b:Cp) (q:Nat):Fv b [] (q+1)=Cp.of ((if q=0 then 1 else 0:Nat):Rat):=by
 cases q with
 |zero=>rfl
 |succ q=>rfl
theorem of_nat_add (m n:Nat):Cp.of (((m+n:Nat)):Rat)=Cp.of (m:Rat)+Cp.of (n:Rat):=by
 push_cast; exact Cp.of_add _ _
theorem Fv_geos {b be:Cp} {p:Rat}:∀ r q,Fv b (repF be p r) (q+1)=Cp.of (cf r (q+1):Rat)*(be.pw q*(Cp.one-b*be).inv.pw (q+r))
 |0,0=>by
  show Cp.one=Cp.of ((1:Nat):Rat)*(Cp.one*Cp.one)
  rw[Cp.mul_one,Cp.mul_one];rfl
 |0,q+1=>by
  show Cp.zero=Cp.of ((0:Nat):Rat)*_
  rw[show Cp.of ((0:Nat):Rat)=Cp.zero from rfl,Cp.zero_mul]
 |r+1,0=>by
  show (Fv b (repF be p r) 1+be*Cp.zero)*(Cp.one-b*be).inv=Cp.of ((cf r 1+0:Nat):Rat)*(Cp.one*((Cp.one-b*be).inv.pw (0+r)*(Cp.one-b*be).inv))
  rw[Fv_geos r 0,Cp.mul_zero,Cp.add_zero]
  show Cp.of (cf r 1:Rat)*(Cp.one*_)*_=_
  rw[Cp.one_mul,Cp.one_mul,Cp.mul_assoc]
  rfl
 |r+1,q+1=>by
  show (Fv b (repF be p r) (q+2)+be*Fv b (repF be p (r+1)) (q+1))*(Cp.one-b*be).inv=Cp.of ((cf r (q+2)+cf (r+1) (q+1):Nat):Rat)*(be.pw q*be*((Cp.one-b*be).inv.pw (q+1+r)*(Cp.one-b*be).inv))
  rw[Fv_geos r (q+1),Fv_geos (r+1) q,of_nat_add,show q+(r+1)=q+1+r by omega]
  generalize (Cp.one-b*be).inv.pw (q+1+r)=X; show (Cp.of (cf r (q+2):Rat)*(be.pw q*be*X)+be*(Cp.of (cf (r+1) (q+1):Rat)*(be.pw q*X)))*(Cp.one-b*be).inv=_; generalize (Cp.one-b*be).inv=Y; generalize be.pw q=Z; generalize Cp.of (cf r (q+2):Rat)=u; generalize Cp.of (cf (r+1) (q+1):Rat)=w
  rw[Cp.add_mul,Cp.add_mul]
  congr 1
  ·simp only[Cp.mul_assoc]
  ·simp only[Cp.mul_assoc,Cp.mul_left_comm,Cp.mul_comm]
theorem Fv_lins {b a:Cp} {p:Rat}:∀ k q,q≤k→Fv b (repL a p k) (q+1)=Cp.of (cl k (q+1):Rat)*(b-a).pw (k-q)
 |0,0,_=>by
  show Cp.one=Cp.of ((1:Nat):Rat)*Cp.one
  rw[Cp.mul_one];rfl
 |k+1,q,h=>by
  show Fv b (repL a p k) q+(b-a)*Fv b (repL a p k) (q+1)=Cp.of ((cl k q+cl k (q+1):Nat):Rat)*(b-a).pw (k+1-q)
  rw[of_nat_add,Cp.add_mul]
  have a1:Fv b (repL a p k) q=Cp.of (cl k q:Rat)*(b-a).pw (k+1-q):=by
   cases q with
   |zero=>
    rw[Fv_zero,cl_zero]
    show _=Cp.zero*_
    rw[Cp.zero_mul]
   |succ q=>
    rw[Fv_lins k q (by omega),show k+1-(q+1)=k-q by omega]
  have a2:(b-a)*Fv b (repL a p k) (q+1)=Cp.of (cl k (q+1):Rat)*(b-a).pw (k+1-q):=by
   rcases Nat.lt_or_ge k q with hq|hq
   ·have e:q=k+1:=by omega
    subst e
    rw[Fv_lins_big k (k+1) (by omega),cl_big k (k+1) (by omega),Cp.mul_zero]
    show _=Cp.zero*_
    rw[Cp.zero_mul]
   ·rw[Fv_lins k q hq,show k+1-q=(k-q)+1 by omega]
    show (b-a)*(Cp.of (cl k (q+1):Rat)*(b-a).pw (k-q))=Cp.of (cl k (q+1):Rat)*((b-a).pw (k-q)*(b-a)); simp only[Cp.mul_assoc,Cp.mul_left_comm,Cp.mul_comm]
  rw[a1,a2]
where
 cl_big:∀ k q,k<q→cl k (q+1)=0
  |0,q+1,_=>rfl
  |k+1,q,h=>by
   show cl k q+cl k (q+1)=0
   obtain⟨q',rfl⟩:∃ q',q=q'+1:=⟨q-1,by omega⟩
   rw[cl_big k q' (by omega),cl_big k (q'+1) (by omega)]
 Fv_lins_big:∀ k q,k<q→Fv b (repL a p k) (q+1)=Cp.zero
  |0,q+1,_=>rfl
  |k+1,q,h=>by
   show Fv b (repL a p k) q+(b-a)*Fv b (repL a p k) (q+1)=Cp.zero
   obtain⟨q',rfl⟩:∃ q',q=q'+1:=⟨q-1,by omega⟩
   rw[Fv_lins_big k q' (by omega),Fv_lins_big k (q'+1) (by omega),Cp.mul_zero,Cp.add_zero]
theorem Fv_far {b a:Cp} {p:Rat}:∀ k q,k<q→Fv b (repL a p k) (q+1)=Cp.zero
  |0,q+1,_=>rfl
  |k+1,q,h=>by
   show Fv b (repL a p k) q+(b-a)*Fv b (repL a p k) (q+1)=Cp.zero
   obtain⟨q',rfl⟩:∃ q',q=q'+1:=⟨q-1,by omega⟩
   rw[Fv_far k q' (by omega),Fv_far k (q'+1) (by omega),Cp.mul_zero,Cp.add_zero]
theorem pw_inv_one {a b:Cp} (h:a*b=Cp.one):∀ n,a.pw n*b.pw n=Cp.one:=fun n=>by rw[← Cp.pw_mul,h,Cp.pw_unit]
theorem pw_neg (a:Cp):∀ n,(-a).pw n=Cp.of ((-1)^n)*a.pw n
 |0=>by
  show Cp.one=Cp.of ((-1:Rat)^0)*Cp.one
  rw[Rat.pow_zero,Cp.mul_one];rfl
 |n+1=>by
  show (-a).pw n*-a=Cp.of ((-1:Rat)^(n+1))*(a.pw n*a)
  rw[pw_neg a n,Rat.pow_succ,Cp.of_mul_of]
  generalize Cp.of ((-1:Rat)^n)=u; generalize a.pw n=X; refine Cp.ext' ?_ ?_
  ·simp only[Cp.mul_re,Cp.mul_im,Cp.neg_re,Cp.neg_im,Cp.of_re,Cp.of_im];grind
  ·simp only[Cp.mul_re,Cp.mul_im,Cp.neg_re,Cp.neg_im,Cp.of_re,Cp.of_im];grind
theorem sgn_sq (n:Nat):((-1:Rat)^n)*((-1)^n)=1:=by
 induction n with
 |zero=>rw[Rat.pow_zero];grind
 |succ n ih=>rw[Rat.pow_succ];grind
theorem geo_value {b γ δ:Cp} {p:Rat} (hγ:γ.nsq≠0) (hδ:δ.nsq≠0) (e:δ=b-γ) (r ν:Nat):
  (-γ.inv).pw r*Fv b (repF γ.inv p r) (ν+1)=Cp.of (cf r (ν+1):Rat)*(Cp.of ((-1)^ν)*δ.inv.pw (ν+r)):=by
 rw[Fv_geos]
 have e1:Cp.one-b*γ.inv=-(δ*γ.inv):=by
  have h:=Cp.inv_mul hγ
  rw[← h,e,Cp.sub_mul]
  exact Cp.ext' (by simp only[Cp.sub_re,Cp.neg_re];grind) (by simp only[Cp.sub_im,Cp.neg_im];grind)
 have e2:(Cp.one-b*γ.inv).inv=-(δ.inv*γ):=by
  rw[e1]
  refine inv_of_mul ?_ ?_
  ·have n1:(-(δ*γ.inv)).nsq=δ.nsq*γ.inv.nsq:=by
    rw[← Cp.nsq_mul]
    unfold Cp.nsq; simp only[Cp.neg_re,Cp.neg_im];grind
   rw[n1]
   intro h0; rcases Rat.mul_eq_zero.1 h0 with h0|h0
   ·exact hδ h0
   ·have:=nsq_inv hγ
    rw[h0]at this
    grind
  ·have h:=Cp.inv_mul hγ; have k:=Cp.inv_mul hδ; have q:-(δ*γ.inv)*-(δ.inv*γ)=(δ*δ.inv)*(γ*γ.inv):=by
    generalize δ.inv=d'; generalize γ.inv=g'; refine Cp.ext' ?_ ?_
    ·simp only[Cp.mul_re,Cp.mul_im,Cp.neg_re,Cp.neg_im];grind
    ·simp only[Cp.mul_re,Cp.mul_im,Cp.neg_re,Cp.neg_im];grind
   rw[q,h,k,Cp.mul_one]
 have g1:=pw_inv_one (Cp.inv_mul hγ) ν; have g2:=pw_inv_one (Cp.inv_mul hγ) r; have s:Cp.of ((-1:Rat)^r)*Cp.of ((-1:Rat)^r)=Cp.one:=by rw[← Cp.of_mul_of,sgn_sq];rfl
 rw[e2,pw_neg,pw_neg,Cp.pw_mul,Cp.pw_add γ,Go.Vx.pow_add (-1:Rat) ν r,Cp.of_mul_of]
 generalize Cp.of ((-1:Rat)^r)=sr at *
 generalize Cp.of ((-1:Rat)^ν)=sv at *
 generalize γ.pw ν=A at *
 generalize γ.inv.pw ν=A' at *
 generalize γ.pw r=B at *
 generalize γ.inv.pw r=B' at *
 generalize δ.inv.pw (ν+r)=Δ; generalize Cp.of (cf r (ν+1):Rat)=K; have e3:sr*B'*(K*(A'*(sv*sr*(Δ*(A*B)))))=(K*(sv*Δ))*((sr*sr)*((B*B')*(A*A'))):=by simp only[Cp.mul_assoc,Cp.mul_left_comm,Cp.mul_comm]
 rw[e3,s,g1,g2,Cp.mul_one,Cp.mul_one,Cp.mul_one]
open Go.Vm Go.Proofs Ieee
theorem pow2829 {n:Nat} (hn:n≤17):(2829:Rat)^n≤2829^17:=pow_le_pow (by decide) hn
theorem big_16:64*(2829:Rat)^16+1≤big200:=by rw[big200_eq];decide +kernel
theorem one_16:16*tn≤1/1000*eps*(1:Rat)^16:=by
 have:=tn_eps (q:=0) (by decide)
 rw[show (2:Rat)^(-((0:Nat):Int))=1 by rw[show (-((0:Nat):Int))=0 by rfl,Rat.zpow_zero]]at this
 rw[one_powQ]
 exact this
theorem one_1:16*tn≤1/1000*eps*1:=by have:=one_16;rwa [one_powQ]at this
theorem wst_of {a b:Nat} {D:Cp} (hD:IsZ a b D) (gD:Ng D 1) (nD:Nm D 2829) (l:List Bool) {N:Nat} (hl:expo l 1=N) (hN:N≤16):
  ∃ p q P,IsZ p q P∧Rl P (D.pw N) (18*eps)∧∀(R:Type) (k:Nat→Nat→Option R),wsteps mulK a b l a b k=k p q:=by
 have ep:=eps_pos
 obtain⟨p,q,P,h1,h2,h3⟩:=wsteps_rel hD gD nD (by decide) (Rat.le_refl) (N:=16) (by decide) big_16 one_16 l 1 a b D (by decide) (by omega) hD (by rw[Cp.pw_one];exact Rl.refl D (by unfold cE;simp))
 rw[hl]at h2
 refine⟨p,q,P,h1,h2.mono ?_,h3⟩
 unfold cE
 have:((N-1:Nat):Rat)≤16:=by exact_mod_cast (show N-1≤16 by omega)
 have:=Rat.mul_le_mul_of_nonneg_right this (show 0≤1001/1000*eps by grind)
 grind
theorem wst_17 {a b:Nat} {D:Cp} (hD:IsZ a b D) (gD:Ng D 1) (nD:Nm D 2829):
  ∃ p q P,IsZ p q P∧Rl P (D.pw 17) (18*eps)∧∀(R:Type) (k:Nat→Nat→Option R),wsteps mulK a b (wbitsX 17) a b k=k p q:=by
 have ep:=eps_pos; have et:=eps_tiny
 obtain⟨p,q,P,h1,h2,h3⟩:=wsteps_rel hD gD nD (by decide) (Rat.le_refl) (N:=16) (by decide) big_16 one_16 [false,false,false,false] 1 a b D (by decide) (by decide) hD (by rw[Cp.pw_one];exact Rl.refl D (by unfold cE;simp))
 have h2':Rl P (D.pw 16) (1502/100*eps):=h2.mono (by
  show (((16-1:Nat):Rat))*(1001/1000*eps)≤_
  rw[show ((16-1:Nat):Rat)=15 by rfl]
  grind)
 have n16:Nm P (1001/1000*2829^16):=by
  have e:=(h2'.err (nm_pw nD 16)).near (nm_pw nD 16); refine e.mono ?_; have p0:(0:Rat)≤2829^16:=Rat.pow_nonneg (by decide)
  have:=Rat.mul_le_mul_of_nonneg_right et p0
  generalize (2829:Rat)^16=X at *
  grind
 have g16:Ng P (1/2):=by
  have:=h2'.ng (ng_pw gD 16) (by grind)
  rwa [one_powQ]at this
 obtain⟨p2,q2,P2,i2,r2,run2⟩:=mulK_rel h1 hD n16 nD (by rw[big200_eq];decide +kernel) (.inr (.inr ⟨g16.mul gD,by have:=one_1;grind⟩))
 refine⟨p2,q2,P2,i2,?_,fun R k=>?_⟩
 ·have t:=r2.trans (h2'.mul (Rl.refl D (δ:=0) Rat.le_refl)); refine Rl.mono t ?_
  have:=Rat.mul_le_mul_of_nonneg_right et (Rat.le_of_lt ep)
  grind
 ·rw[show wsteps mulK a b (wbitsX 17) a b k=wsteps mulK a b [false,false,false,false] a b fun x y=>mulK R x y a b k by rfl,h3]
  exact run2 R k
theorem wpowX_small {n:Nat} (hn:n≤10) {a b:Nat} (R:Type) (k:Nat→Nat→Option R):wpowX R a b (n:Int) k=wpowK R a b (n:Int) k:=by
 unfold wpowX; have h1:(((n:Nat):Int) == 11)=false:=by simp;omega
 have h2:(((n:Nat):Int) == 12)=false:=by simp;omega
 have h3:(((n:Nat):Int) == 13)=false:=by simp;omega
 have h4:(((n:Nat):Int) == 14)=false:=by simp;omega
 have h5:(((n:Nat):Int) == 15)=false:=by simp;omega
 have h6:(((n:Nat):Int) == 16)=false:=by simp;omega
 have h7:(((n:Nat):Int) == 17)=false:=by simp;omega
 rw[h1,h2,h3,h4,h5,h6,h7]
 rfl
def bW:Rat:=2*2829^17
theorem bW_pos:0<bW:=by unfold bW;decide +kernel
theorem bW_big:bW≤(2:Rat)^(300:Int):=by
 have:=p2_le (show (200:Int)≤300 by decide)
 refine Rat.le_trans ?_ this
 rw[show (200:Int)=((200:Nat):Int) by rfl,p2_nat]
 unfold bW; decide +kernel
theorem bW_low:(2:Rat)^(-300:Int)≤1/20*bW⁻¹:=by
 have:=p2_le (show (-300:Int)≤-250 by decide)
 refine Rat.le_trans this ?_
 have c:=p2_cancel 250
 rw[show (2:Rat)^(250:Int)=1809251394333065553493296640760748560207343510400633813116524750123642650624 by rw[show (250:Int)=((250:Nat):Int) by rfl,p2_nat];rfl]at c
 have e:(2:Rat)^(-250:Int)=1/1809251394333065553493296640760748560207343510400633813116524750123642650624:=by grind
 rw[e]
 unfold bW; decide +kernel
theorem tn_40:4*tn≤1/1000*eps*(1/40):=by
 have:=tn_eps (q:=20) (by decide)
 rw[show (-((20:Nat):Int))=-20 by rfl,p20m]at this
 have:=eps_pos
 grind
theorem powX_rel {a b:Nat} {D:Cp} (hD:IsZ a b D) (gD:Ng D 1) (nD:Nm D 2829) {n:Nat} (hn:n≤17):
  ∃ p q P,IsZ p q P∧Rl P (D.pw n) (18*eps)∧∀(R:Type) (k:Nat→Nat→Option R),wpowX R a b (n:Int) k=k p q:=by
 have ep:=eps_pos; rcases Nat.lt_or_ge n 11 with h|h
 ·obtain⟨p,q,P,h1,h2,h3⟩:=wpowK_rel hD gD nD (by decide) Rat.le_refl (by rw[big200_eq];decide +kernel) (by have:=one_1;rwa [one_powQ]) (n:=n) (by omega)
  exact⟨p,q,P,h1,h2.mono (by grind),fun R k=>by rw[wpowX_small (by omega)];exact h3 R k⟩
 ·match n,h,hn with
  |11,_,_=>
         obtain⟨p,q,P,h1,h2,h3⟩:=wst_of hD gD nD (wbitsX 11) (N:=11) rfl (by decide)
         exact⟨p,q,P,h1,h2,h3⟩
  |12,_,_=>
         obtain⟨p,q,P,h1,h2,h3⟩:=wst_of hD gD nD (wbitsX 12) (N:=12) rfl (by decide)
         exact⟨p,q,P,h1,h2,h3⟩
  |13,_,_=>
         obtain⟨p,q,P,h1,h2,h3⟩:=wst_of hD gD nD (wbitsX 13) (N:=13) rfl (by decide)
         exact⟨p,q,P,h1,h2,h3⟩
  |14,_,_=>
         obtain⟨p,q,P,h1,h2,h3⟩:=wst_of hD gD nD (wbitsX 14) (N:=14) rfl (by decide)
         exact⟨p,q,P,h1,h2,h3⟩
  |15,_,_=>
         obtain⟨p,q,P,h1,h2,h3⟩:=wst_of hD gD nD (wbitsX 15) (N:=15) rfl (by decide)
         exact⟨p,q,P,h1,h2,h3⟩
  |16,_,_=>
         obtain⟨p,q,P,h1,h2,h3⟩:=wst_of hD gD nD (wbitsX 16) (N:=16) rfl (by decide)
         exact⟨p,q,P,h1,h2,h3⟩
  |17,_,_=>
         obtain⟨p,q,P,h1,h2,h3⟩:=wst_17 hD gD nD
         exact⟨p,q,P,h1,h2,h3⟩
  |n+18,_,h=>exact absurd h (by omega)
theorem powX_any {a b:Nat} {D:Cp} (hD:IsZ a b D) (gD:D=Cp.zero∨Ng D 1) (nD:Nm D 2829) {n:Nat} (hn:n≤3):
  ∃ p q P,IsZ p q P∧Rl P (D.pw n) (18*eps)∧∀(R:Type) (k:Nat→Nat→Option R),wpowX R a b (n:Int) k=k p q:=by
 have ep:=eps_pos; rcases gD with h0|gD
 ·match n,hn with
  |0,_=>exact⟨4607182418800017408,0,Cp.one,⟨by show Is _ (1:Rat);simpa using lit1,by show Is _ (0:Rat);simpa using is_zero⟩,Rl.refl _ (by grind),fun R k=>rfl⟩
  |1,_=>exact⟨a,b,D,hD,by rw[Cp.pw_one];exact Rl.refl _ (by grind),fun R k=>rfl⟩
  |2,_=>
   obtain⟨p,q,P,i,r,run⟩:=mulK_rel hD hD nD nD (m:=0) (by rw[big200_eq];decide +kernel) (.inl h0)
   exact⟨p,q,P,i,by rw[show D.pw 2=D*D by show Cp.one*D*D=_;rw[Cp.one_mul]];exact r.mono (by grind),fun R k=>run R k⟩
  |3,_=>
   obtain⟨p,q,P,i,r,run⟩:=mulK_rel hD hD nD nD (m:=0) (by rw[big200_eq];decide +kernel) (.inl h0)
   have e:P=Cp.zero:=r.zero (by rw[h0,Cp.zero_mul])
   obtain⟨p2,q2,P2,i2,r2,run2⟩:=mulK_rel i hD (show Nm P 1 by rw[e];exact nm_zero.mono (by decide)) nD (m:=0) (by rw[big200_eq];decide +kernel) (.inl e)
   have e2:P2=Cp.zero:=r2.zero (by rw[h0,Cp.mul_zero])
   refine⟨p2,q2,P2,i2,?_,fun R k=>?_⟩
   ·rw[e2,h0,show Cp.zero.pw 3=Cp.zero by show Cp.one*Cp.zero*Cp.zero*Cp.zero=_;rw[Cp.mul_zero]]
    exact Rl.refl _ (by grind)
   ·show mulK R a b a b (fun x y=>mulK R x y a b k)=_
    rw[run,run2]
 ·exact powX_rel hD gD nD (by omega)
section
variable {A D:Cp} {s1 s2 f d1 d2:Nat} {F:Rat} (iA:IsZ s1 s2 A) (lA:A=Cp.zero∨Ng A (1/10)) (nA:Nm A 20000) (iF:Is f F) (F1:1≤F.abs) (F2:F.abs≤10000000000) (iD:IsZ d1 d2 D) (nD:Nm D 2829)
include iA lA nA iF F1 F2
theorem scl_F:∃ p q P,IsZ p q P∧Rl P (Cp.of F*A) eps∧(P=Cp.zero∨Ng P (1/20))∧Nm P 400000000000000∧∀(R:Type) (k:Nat→Nat→Option R),sclK R s1 s2 f k=k p q:=by
 have ep:=eps_pos; have et:=eps_tiny; have low:A=Cp.zero∨Ng (Cp.of F*A) (1/10):=by
  rcases lA with h|h
  ·exact .inl h
  ·right
   have:Ng (Cp.of F) 1:=⟨by decide,by
    have e:(Cp.of F).nsq=F*F:=by unfold Cp.nsq;simp only[Cp.of_re,Cp.of_im];grind
    have e2:=abs_sq F
    have:=mul_mono' F1 F1 (by decide) (by grind)
    rw[e]
    grind⟩
   have:=this.mul h
   exact this.mono (by decide +kernel) (by decide +kernel)
 obtain⟨p,q,P,iP,rP,run⟩:=sclK_rel iA iF nA (m:=1/10) (by rw[big200_eq];grind) (by
  rcases low with h|h
  ·exact .inl h
  ·exact .inr ⟨h,by have:=tn_40;grind⟩)
 refine⟨p,q,P,iP,rP,?_,?_,run⟩
 ·rcases low with h|h
  ·left;exact rP.zero (by rw[h,Cp.mul_zero])
  ·right;exact(rP.ng h (by grind)).mono (by decide +kernel) (by decide +kernel)
 ·have n1:Nm (Cp.of F*A) (10000000000*20000):=(nm_of F2).mul nA
  exact(rP.nm n1 (by grind)).mono (by decide +kernel)
include iD nD
theorem dv_pole (gD:Ng D 1) {N:Nat} (hN:N≤17):∃(v:Nat×Nat) (V:Cp),IsZ v.1 v.2 V∧Rl V (Cp.of F*A*D.inv.pw N) (105*eps)∧∀(R:Type) (k:Nat→Nat→Option R),(sclK R s1 s2 f fun u1 u2=>wpowX R d1 d2 (N:Int) fun x y=>divK R u1 u2 x y k)=k v.1 v.2:=by
 have ep:=eps_pos; have et:=eps_tiny
 obtain⟨p,q,U,iU,rU,lU,nU,hU⟩:=scl_F iA lA nA iF F1 F2
 obtain⟨x,y,W,iW,rW,hW⟩:=powX_rel iD gD nD hN
 have Dn:D.nsq≠0:=ng_ne gD (by decide); have gW:Ng W (1/2):=by have:=rW.ng (ng_pw gD N) (by grind);rwa [one_powQ]at this
 have nW:Nm W bW:=(rW.nm (nm_pw nD N) (by grind)).mono (by unfold bW;exact Rat.mul_le_mul_of_nonneg_left (pow2829 hN) (by decide))
 obtain⟨i1,i2⟩:=inv_sizes gW (by decide +kernel) nW bW_pos
 have h1:(2:Rat)^(-299:Int)≤1/2:=by
  have:=p2_le (show (-299:Int)≤-20 by decide)
  rw[p20m]at this
  exact Rat.le_trans this (by decide +kernel)
 have h4:(400000000000000:Rat)*(1/2)⁻¹≤(2:Rat)^(299:Int):=by
  have:=p2_le (show (60:Int)≤299 by decide)
  refine Rat.le_trans ?_ this
  rw[show (60:Int)=((60:Nat):Int) by rfl,p2_nat]
  decide +kernel
 obtain⟨v1,v2,V,iV,rV,hV⟩:=divK_rel iU iW gW nW h1 bW_big (mq:=1/20*bW⁻¹) (rq:=400000000000000*(1/2)⁻¹) (by
  rcases lU with h|h
  ·exact .inl h
  ·exact .inr ⟨h.mul i2,nU.mul i1,bW_low,h4⟩)
 refine⟨(v1,v2),V,iV,?_,fun R k=>by rw[hU,hW,hV]⟩
 have t1:=(rW.inv (by grind) (nsq_pw Dn N)).1
 rw[inv_pw Dn]at t1
 have t2:=rV.trans (rU.mul t1); refine t2.mono ?_; have ee:=Rat.mul_le_mul_of_nonneg_right et (Rat.le_of_lt ep); have eee:=Rat.mul_le_mul_of_nonneg_right ee (Rat.le_of_lt ep); have e2:=Rat.mul_nonneg (Rat.le_of_lt ep) (Rat.le_of_lt ep); grind
theorem dv_corner (gD:D=Cp.zero∨Ng D 1) {N:Nat} (hN:N≤3):∃(v:Nat×Nat) (V:Cp),IsZ v.1 v.2 V∧Rl V (Cp.of F*A*D.pw N) (105*eps)∧∀(R:Type) (k:Nat→Nat→Option R),(sclK R s1 s2 f fun u1 u2=>wpowX R d1 d2 (N:Int) fun x y=>mulK R u1 u2 x y k)=k v.1 v.2:=by
 have ep:=eps_pos; have et:=eps_tiny
 obtain⟨p,q,U,iU,rU,lU,nU,hU⟩:=scl_F iA lA nA iF F1 F2
 obtain⟨x,y,W,iW,rW,hW⟩:=powX_any iD gD nD hN
 have nW:Nm W (2*2829^3):=(rW.nm (nm_pw nD N) (by grind)).mono (Rat.mul_le_mul_of_nonneg_left (pow_le_pow (by decide) hN) (by decide)); have lW:W=Cp.zero∨Ng W (1/2):=by
  rcases gD with h|h
  ·match N,hN with
   |0,_=>right;have:=rW.ng (m:=1) (by show Ng Cp.one 1;exact ng_pw (z:=Cp.one) (m:=1) ⟨by decide,by show (1:Rat)*1≤Cp.one.nsq;unfold Cp.nsq;simp only[Cp.one_re,Cp.one_im];grind⟩ 0 |>.mono (by decide) (by rw[Rat.pow_zero];exact Rat.le_refl)) (by grind);exact this
   |n+1,_=>left;exact rW.zero (by show D.pw n*D=_;rw[h,Cp.mul_zero])
  ·right;have:=rW.ng (ng_pw h N) (by grind);rwa [one_powQ]at this
 obtain⟨v1,v2,V,iV,rV,hV⟩:=mulK_rel iU iW nU nW (m:=1/20*(1/2)) (by rw[big200_eq];decide +kernel) (by
  rcases lU with h|h
  ·exact .inl h
  ·rcases lW with g|g
   ·exact .inr (.inl g)
   ·exact .inr (.inr ⟨h.mul g,by have:=tn_40;grind⟩))
 refine⟨(v1,v2),V,iV,?_,fun R k=>by rw[hU,hW,hV]⟩
 have t2:=rV.trans (rU.mul rW); refine t2.mono ?_; have ee:=Rat.mul_le_mul_of_nonneg_right et (Rat.le_of_lt ep); have eee:=Rat.mul_le_mul_of_nonneg_right ee (Rat.le_of_lt ep); have e2:=Rat.mul_nonneg (Rat.le_of_lt ep) (Rat.le_of_lt ep); grind
end
theorem of_back {R:Rat} (hR:R≠0) (X:Cp):Cp.of R*(Cp.of R⁻¹*X)=X:=by
 rw[← Cp.mul_assoc,← Cp.of_mul_of,Rat.mul_inv_cancel _ hR]
 exact Cp.one_mul X
theorem of_pw_one {R:Rat} (hR:R≠0) (n:Nat):(Cp.of R⁻¹).pw n*(Cp.of R).pw n=Cp.one:=pw_inv_one (by rw[← Cp.of_mul_of,Rat.inv_mul_cancel _ hR];rfl) n
theorem way_inv {δ D:Cp} {R:Rat} (hR:R≠0) (hD:D.nsq≠0) (e:δ=Cp.of R⁻¹*D):δ.nsq≠0∧δ.inv=Cp.of R*D.inv:=by
 have hR':R⁻¹≠0:=fun h=>by
  have:=Rat.mul_inv_cancel _ hR
  rw[h]at this
  grind
 have n0:δ.nsq≠0:=by
  rw[e,of_mul_nsq]
  intro h; rcases Rat.mul_eq_zero.1 h with h|h
  ·rcases Rat.mul_eq_zero.1 h with h|h<;>exact hR' h
  ·exact hD h
 refine⟨n0,inv_of_mul n0 ?_⟩
 rw[e,ac4,← Cp.of_mul_of,Rat.inv_mul_cancel _ hR,Cp.inv_mul hD]
 exact Cp.mul_one _
theorem pole_value {A b γ D:Cp} {R p:Rat} (hR:R≠0) (hγ:γ.nsq≠0) (hD:D.nsq≠0) (e:b-γ=Cp.of R⁻¹*D) (f:Rat) (r ν:Nat):
  A*(Cp.of R⁻¹).pw r*(-γ.inv).pw r*(Cp.of f*(Cp.of R⁻¹).pw ν)*Fv b (repF γ.inv p r) (ν+1)=Cp.of (f*(cf r (ν+1):Rat)*(-1)^ν)*A*D.inv.pw (ν+r):=by
 obtain⟨n0,iδ⟩:=way_inv hR hD e
 have g:=geo_value (p:=p) hγ n0 rfl r ν; have h:=of_pw_one hR (ν+r)
 rw[iδ,Cp.pw_mul]at g
 rw[Cp.pw_add]at h
 have e1:A*(Cp.of R⁻¹).pw r*(-γ.inv).pw r*(Cp.of f*(Cp.of R⁻¹).pw ν)*Fv b (repF γ.inv p r) (ν+1)=A*Cp.of f*((Cp.of R⁻¹).pw ν*(Cp.of R⁻¹).pw r)*((-γ.inv).pw r*Fv b (repF γ.inv p r) (ν+1)):=by simp only[Cp.mul_assoc,Cp.mul_left_comm,Cp.mul_comm]
 rw[e1,g,Cp.of_mul_of,Cp.of_mul_of]
 generalize (Cp.of R⁻¹).pw ν*(Cp.of R⁻¹).pw r=X at *
 generalize (Cp.of R).pw (ν+r)=Y at *
 generalize D.inv.pw (ν+r)=Z; generalize Cp.of (cf r (ν+1):Rat)=K; generalize Cp.of ((-1:Rat)^ν)=s; generalize Cp.of f=F; have e2:A*F*X*(K*(s*(Y*Z)))=F*K*s*A*Z*(X*Y):=by simp only[Cp.mul_assoc,Cp.mul_left_comm,Cp.mul_comm]
 rw[e2,h,Cp.mul_one]
theorem corner_value {A b γ D:Cp} {R p:Rat} (hR:R≠0) (e:b-γ=Cp.of R⁻¹*D) (f:Rat) {k ν:Nat} (h:ν≤k):
  A*(Cp.of R).pw k*(Cp.of f*(Cp.of R⁻¹).pw ν)*Fv b (repL γ p k) (ν+1)=Cp.of (f*(cl k (ν+1):Rat))*A*D.pw (k-ν):=by
 rw[Fv_lins k ν h,e,Cp.pw_mul,Cp.of_mul_of]
 have h1:=of_pw_one hR k
 obtain⟨j,rfl⟩:∃ j,k=ν+j:=⟨k-ν,by omega⟩
 rw[show ν+j-ν=j by omega]
 rw[Cp.pw_add (Cp.of R⁻¹)]at h1
 generalize (Cp.of R⁻¹).pw ν=X at *
 generalize (Cp.of R⁻¹).pw j=X' at *
 generalize (Cp.of R).pw (ν+j)=Y at *
 generalize D.pw j=Z; generalize Cp.of (cl (ν+j) (ν+1):Rat)=K; generalize Cp.of f=F; have e2:A*Y*(F*X)*(K*(X'*Z))=F*K*A*Z*(X*X'*Y):=by simp only[Cp.mul_assoc,Cp.mul_left_comm,Cp.mul_comm]
 rw[e2,h1,Cp.mul_one]
def facN:Nat→Nat
 |0=>1
 |n+1=>(n+1)*facN n
theorem tab_src:∀ ν:Nat,ν<9→lookI 1 (ν:Int) prodT=some (fI ((facN ν*cf 1 (ν+1):Nat):Int))∧1≤facN ν*cf 1 (ν+1)∧facN ν*cf 1 (ν+1)≤10000000000:=by decide +kernel
theorem tab_dbl:∀ m:Nat,m<9→∀ ν:Nat,ν<9→1≤m→lookI (m:Int) ((m:Int)+(ν:Int)) prodT=some (fI ((m*(facN ν*cf (m+1) (ν+1)):Nat):Int))∧1≤m*(facN ν*cf (m+1) (ν+1))∧m*(facN ν*cf (m+1) (ν+1))≤10000000000:=by decide +kernel
theorem tab_cor:∀ m:Nat,m<5→∀ ν:Nat,ν<m→lookI ((m:Int)-(ν:Int)) (m:Int) prodT=some (fI ((m*(facN ν*cl (m-1) (ν+1)):Nat):Int))∧1≤m*(facN ν*cl (m-1) (ν+1))∧m*(facN ν*cl (m-1) (ν+1))≤10000000000:=by decide +kernel
theorem tab_fac:∀ ν:Nat,ν<8→lookI 1 (((ν+1:Nat):Int)-1) prodT=some (fI ((facN ν:Nat):Int))∧1≤facN ν∧facN ν≤10000000000:=by decide +kernel
theorem sgn_of:∀ ν:Nat,ν<9→(((ν:Int).tmod 2 == 1)=true∧(-1:Rat)^ν=-1)∨(((ν:Int).tmod 2 == 1)=false∧(-1:Rat)^ν=1):=by decide +kernel
theorem prod_look {a b:Int} {w:Nat} (h:lookI a b prodT=some w) (R:Type) (k:Nat→Option R):prodK R a b k=k w:=by
 unfold prodK
 rw[h];rfl
theorem gz_sub (a b c d:Int):gz a b-gz c d=gz (a-c) (b-d):=by
 refine Cp.ext' ?_ ?_
 ·show (a:Rat)-(c:Rat)=((a-c:Int):Rat);push_cast;rfl
 ·show (b:Rat)-(d:Rat)=((b-d:Int):Rat);push_cast;rfl
theorem gz_times (k:Int) (a b:Int):gz (a*k) (b*k)=Cp.of (k:Rat)*gz a b:=by
 rw[Cp.of_mul]
 refine Cp.ext' ?_ ?_
 ·show ((a*k:Int):Rat)=(k:Rat)*(a:Rat);push_cast;grind
 ·show ((b*k:Int):Rat)=(k:Rat)*(b:Rat);push_cast;grind
theorem gz_2829 {a b:Int} (h1:a.natAbs≤2000) (h2:b.natAbs≤2000):Nm (gz a b) 2829:=by
 refine⟨by decide,?_⟩
 have e:(gz a b).nsq=((a*a+b*b:Int):Rat):=by
  show (a:Rat)*a+(b:Rat)*b=_; push_cast;rfl
 rw[e]
 have a1:a*a≤2000*2000:=by
  have:a*a=((a.natAbs*a.natAbs:Nat):Int):=by push_cast;rw[Int.natAbs_mul_self']
  rw[this]
  exact_mod_cast Nat.mul_le_mul h1 h1
 have a2:b*b≤2000*2000:=by
  have:b*b=((b.natAbs*b.natAbs:Nat):Int):=by push_cast;rw[Int.natAbs_mul_self']
  rw[this]
  exact_mod_cast Nat.mul_le_mul h2 h2
 have h:((a*a+b*b:Int):Rat)≤((8000000:Int):Rat):=Rat.intCast_le_intCast.2 (by omega); refine Rat.le_trans h (by decide +kernel)
section
variable {cx cy r:Int} {hX hY:Th}
theorem gmm_way:gmm cx cy r hX-gmm cx cy r hY=Cp.of ((r:Rat))⁻¹*gz (hX.x-hY.x) (hX.y-hY.y):=by
 unfold gmm
 rw[← Cp.mul_sub,gz_sub]
 congr 2<;>omega
theorem sgn_mul {ν:Nat} (h:ν<9) (neg:Bool) {w:Nat} {K:Nat} (hw:Is w ((K:Int):Rat)) (hK:K≤10000000000):
  ∃ v,fbF .mul (bif xor neg ((ν:Int).tmod 2 == 1) then 13830554455654793216 else 4607182418800017408) w=some v∧Is v ((bif neg then -1 else 1)*(K:Rat)*(-1)^ν):=by
 have one:Is 13830554455654793216 ((-1:Int):Rat):=lit_isI (by kernel_rfl) (by decide); rcases sgn_of ν h with ⟨a,b⟩|⟨a,b⟩
 ·cases neg with
  |false=>
   obtain⟨v,e,i⟩:=mul_int one hw (by omega)
   refine⟨v,by rw[a];exact e,?_⟩
   rw[b,cond_false,show (1:Rat)*(K:Rat)*-1=((-1*(K:Int):Int):Rat) by push_cast;grind]
   exact i
  |true=>
   obtain⟨v,e,i⟩:=mul_int lit1 hw (by omega)
   refine⟨v,by rw[a];exact e,?_⟩
   rw[b,cond_true,show (-1:Rat)*(K:Rat)*-1=((1*(K:Int):Int):Rat) by push_cast;grind]
   exact i
 ·cases neg with
  |false=>
   obtain⟨v,e,i⟩:=mul_int lit1 hw (by omega)
   refine⟨v,by rw[a];exact e,?_⟩
   rw[b,cond_false,show (1:Rat)*(K:Rat)*1=((1*(K:Int):Int):Rat) by push_cast;grind]
   exact i
  |true=>
   obtain⟨v,e,i⟩:=mul_int one hw (by omega)
   refine⟨v,by rw[a];exact e,?_⟩
   rw[b,cond_true,show (-1:Rat)*(K:Rat)*1=((-1*(K:Int):Int):Rat) by push_cast;grind]
   exact i
theorem abs_sgn {b:Bool} {K ν:Nat} (h:ν<9) (h1:1≤K) (h2:K≤10000000000):1≤((bif b then (-1:Rat) else 1)*(K:Rat)*(-1)^ν).abs∧((bif b then (-1:Rat) else 1)*(K:Rat)*(-1)^ν).abs≤10000000000:=by
 have k1:(1:Rat)≤(K:Rat):=by exact_mod_cast h1
 have k2:(K:Rat)≤10000000000:=by exact_mod_cast h2
 have e:((bif b then (-1:Rat) else 1)*(K:Rat)*(-1)^ν).abs=(K:Rat):=by
  rcases sgn_of ν h with ⟨_,q⟩|⟨_,q⟩<;>cases b<;>rw[q]
  ·rw[cond_false,show (1:Rat)*K*-1=-K by grind,Go.Vm.abs_neg,Rat.abs_of_nonneg (by grind)]
  ·rw[cond_true,show (-1:Rat)*K*-1=K by grind,Rat.abs_of_nonneg (by grind)]
  ·rw[cond_false,show (1:Rat)*K*1=K by grind,Rat.abs_of_nonneg (by grind)]
  ·rw[cond_true,show (-1:Rat)*K*1=-K by grind,Go.Vm.abs_neg,Rat.abs_of_nonneg (by grind)]
 rw[e]
 exact⟨k1,k2⟩
theorem dv_of (fX:FineT hX) (fY:FineT hY) {c:Nat×Nat} {C κ:Cp} {s:Sd} (R1:(1:Rat)≤(r:Rat)) (bX:Nm (gmm cx cy r hX) (5075/10000)) (DY:Dsc (r:Rat) (gmm cx cy r hY) hY false c C s κ) {ν:Nat} (h9:ν<9):
  ∃(v:Nat×Nat) (V:Cp) (L:List Fc),s=.out L∧IsZ v.1 v.2 V∧Rl V (κ*(Cp.of (facN ν:Rat)*(Cp.of ((r:Rat))⁻¹).pw ν)*Fv (gmm cx cy r hX) L (ν+1)) (105*eps)∧DvOk hX.el (ν:Int) hY.el v:=by
 have ep:=eps_pos; have bx:=fX.xy; have bY:=fY.xy; have pY:=fY.pow; have Rn:(r:Rat)≠0:=by grind
 obtain⟨d1,d2,hd,hsub⟩:=subK_int fX.at fY.at (by omega) (by omega)
 have iD:IsZ d1 d2 (gz (hX.x-hY.x) (hX.y-hY.y)):=isC_z hd; have nD:Nm (gz (hX.x-hY.x) (hX.y-hY.y)) 2829:=gz_2829 (by omega) (by omega); have ti:floatToIntVal .f64 (fI hY.p) .i64=some hY.p:=toInt_is (fI_is (by omega)) (by omega); have way:=gmm_way (cx:=cx) (cy:=cy) (r:=r) (hX:=hX) (hY:=hY); have far:Ng (gmm cx cy r hY) (197058/100000)→Ng (gz (hX.x-hY.x) (hX.y-hY.y)) 1:=fun g=>by
  refine gz_zero fun h=>?_
  rw[h,Cp.mul_zero]at way
  have e:gmm cx cy r hX=gmm cx cy r hY:=by
   have h1:(gmm cx cy r hX-gmm cx cy r hY).re=Cp.zero.re:=by rw[way]
   have h2:(gmm cx cy r hX-gmm cx cy r hY).im=Cp.zero.im:=by rw[way]
   rw[Cp.sub_re,Cp.zero_re]at h1
   rw[Cp.sub_im,Cp.zero_im]at h2
   exact Cp.ext' (by grind) (by grind)
  rw[← e]at g
  have:=ng_le_nm g bX
  exact absurd this (by decide +kernel)
 have lowS:gz hY.s hY.t=Cp.zero∨Ng (gz hY.s hY.t) (1/10):=gz_low; have nS:Nm (gz hY.s hY.t) 20000:=gz_20000 (by omega) (by omega); have iS:IsZ (fI hY.s) (fI hY.t) (gz hY.s hY.t):=isC_z fY.st; have hdv:∀(R:Type) (k:Nat→Nat→Option R),dvK R hY.el.kind hY.el.a1 hY.el.a2 hY.el.s1 hY.el.s2 hY.el.p hX.el.a1 hX.el.a2 (ν:Int) k=dvB fiReal prodK wpowX reH subK divK mulK sclK R hY.kind (fI hY.x) (fI hY.y) (fI hY.s) (fI hY.t) (fI hY.p) (fI hX.x) (fI hX.y) (ν:Int) k:=fun R k=>rfl
 unfold DvOk; simp only[hdv]; cases DY with
 |stream k=>
  rw[k]
  cases ν with
  |zero=>
   refine⟨(fI hY.s,fI hY.t),gz hY.s hY.t,_,rfl,iS,?_,fun R K=>?_⟩
   ·show Rl _ (gz hY.s hY.t*(Cp.of ((1:Nat):Rat)*Cp.one)*Cp.one) _
    rw[Cp.mul_one,Cp.mul_one,show Cp.of ((1:Nat):Rat)=Cp.one from rfl,Cp.mul_one]
    exact Rl.refl _ (by grind)
   ·show subK R _ _ _ _ _=_
    rw[hsub,ti]
    show fiReal R _ _=_
    rw[fi_real,fi_real]
    rfl
  |succ ν=>
   refine⟨(0,0),Cp.zero,_,rfl,⟨by show Is _ (0:Rat);simpa using is_zero,by show Is _ (0:Rat);simpa using is_zero⟩,?_,fun R K=>?_⟩
   ·rw[show Fv (gmm cx cy r hX) (repF Cp.zero qB 0) (ν+1+1)=Cp.zero from rfl,Cp.mul_zero]
    exact Rl.refl _ (by grind)
   ·show subK R _ _ _ _ _=_
    rw[hsub,ti]
    show fiReal R _ _=_
    rw[fi_real,fi_real]
    have e:(((ν+1:Nat):Int) == 0)=false:=by simp;omega
    show (bif (((ν+1:Nat):Int).tmod 2 == 1) then (bif ((ν+1:Nat):Int) == 0 then K (fI hY.s) (fI hY.t) else K 0 0) else (bif ((ν+1:Nat):Int) == 0 then K (fI hY.s) (fI hY.t) else K 0 0))=_
    rw[e]
    cases ((ν+1:Nat):Int).tmod 2 == 1<;>rfl
 |srcO _ _ k hc iC lC nC hγ=>
  obtain⟨t1,t2,t3⟩:=tab_src ν h9
  obtain⟨w,ew,iw⟩:=sgn_mul h9 false (fI_is (n:=((facN ν*cf 1 (ν+1):Nat):Int)) (by omega)) t3
  obtain⟨F1,F2⟩:=abs_sgn (b:=false) h9 t2 t3
  have gD:=far hγ
  obtain⟨v,V,iV,rV,hV⟩:=dv_pole iC lC nC iw F1 F2 iD nD gD (N:=ν+1) (by omega)
  refine⟨v,V,_,rfl,iV,?_,fun R K=>?_⟩
  ·rw[pole_value Rn (ng_ne hγ (by decide +kernel)) (ng_ne gD (by decide)) way]
   rw[cond_false]at rV
   have e:(1:Rat)*((facN ν*cf 1 (ν+1):Nat):Rat)*(-1)^ν=(facN ν:Rat)*(cf 1 (ν+1):Rat)*(-1)^ν:=by push_cast;grind
   rw[e]at rV
   exact rV
  ·rw[k]
   show subK R _ _ _ _ _=_
   rw[hsub,ti]
   show fiReal R _ _=_
   rw[fi_real,fi_real]
   have wr:IntKind.i64.wrap ((ν:Int)+1)=((ν+1:Nat):Int):=by rw[wrapI (by omega) (by omega)];push_cast;rfl
   have main:∀ SG,fbF .mul SG (fI ((facN ν*cf 1 (ν+1):Nat):Int))=some w→dv2 fiReal prodK wpowX reH divK sclK (fI hY.s) (fI hY.t) d1 d2 (ν:Int) K SG=K v.1 v.2:=fun SG hSG=>by
    unfold dv2; simp only[fi_real,wr]; show sclK R (fI hY.s) (fI hY.t) 4594902181429758083 _=_
    rw[hc,prod_look t1,bindF_eq hSG]
    exact hV R K
   show (bif ((ν:Int).tmod 2 == 1) then dv2 fiReal prodK wpowX reH divK sclK (fI hY.s) (fI hY.t) d1 d2 (ν:Int) K 13830554455654793216 else dv2 fiReal prodK wpowX reH divK sclK (fI hY.s) (fI hY.t) d1 d2 (ν:Int) K 4607182418800017408)=_; cases hs:((ν:Int).tmod 2 == 1) with
   |true=>rw[hs]at ew;exact main _ ew
   |false=>rw[hs]at ew;exact main _ ew
 |dblO m k m1 m8 hp hγ=>
  obtain⟨t1,t2,t3⟩:=tab_dbl m (by omega) ν h9 m1
  obtain⟨w,ew,iw⟩:=sgn_mul h9 true (fI_is (n:=((m*(facN ν*cf (m+1) (ν+1)):Nat):Int)) (by omega)) t3
  obtain⟨F1,F2⟩:=abs_sgn (b:=true) h9 t2 t3
  have gD:=far hγ
  obtain⟨v,V,iV,rV,hV⟩:=dv_pole iS lowS nS iw F1 F2 iD nD gD (N:=ν+(m+1)) (by omega)
  refine⟨v,V,_,rfl,iV,?_,fun R K=>?_⟩
  ·rw[pole_value Rn (ng_ne hγ (by decide +kernel)) (ng_ne gD (by decide)) way,gz_times]
   rw[cond_true]at rV
   have e:Cp.of (-1*((m*(facN ν*cf (m+1) (ν+1)):Nat):Rat)*(-1)^ν)*gz hY.s hY.t=Cp.of ((facN ν:Rat)*(cf (m+1) (ν+1):Rat)*(-1)^ν)*(Cp.of ((-(m:Int):Int):Rat)*gz hY.s hY.t):=by
    rw[← Cp.mul_assoc,← Cp.of_mul_of]
    congr 2
    push_cast;grind
   rw[e]at rV
   exact rV
  ·rw[k,hp]
   rw[hp]at ti
   show subK R _ _ _ _ _=_
   rw[hsub,ti]
   show fiReal R _ _=_
   rw[fi_real,fi_real]
   have wr1:IntKind.i64.wrap ((m:Int)+(ν:Int))=(m:Int)+(ν:Int):=wrapI (by omega) (by omega); have wr2:IntKind.i64.wrap ((m:Int)+1)=(m:Int)+1:=wrapI (by omega) (by omega); have wr3:IntKind.i64.wrap ((m:Int)+1+(ν:Int))=((ν+(m+1):Nat):Int):=by rw[wrapI (by omega) (by omega)];push_cast;omega
   have main:∀ SG,fbF .mul SG (fI ((m*(facN ν*cf (m+1) (ν+1)):Nat):Int))=some w→dv3 fiReal prodK wpowX divK sclK (fI hY.s) (fI hY.t) d1 d2 (m:Int) (ν:Int) K SG=K v.1 v.2:=fun SG hSG=>by
    unfold dv3; simp only[fi_real,wr1,wr2,wr3]
    rw[prod_look t1,bindF_eq hSG]
    exact hV R K
   show (bif ((ν:Int).tmod 2 == 1) then dv3 fiReal prodK wpowX divK sclK (fI hY.s) (fI hY.t) d1 d2 (m:Int) (ν:Int) K 4607182418800017408 else dv3 fiReal prodK wpowX divK sclK (fI hY.s) (fI hY.t) d1 d2 (m:Int) (ν:Int) K 13830554455654793216)=_; cases hs:((ν:Int).tmod 2 == 1) with
   |true=>rw[hs]at ew;exact main _ ew
   |false=>rw[hs]at ew;exact main _ ew
 |cor m k m1 m4 hp=>
  have gD:gz (hX.x-hY.x) (hX.y-hY.y)=Cp.zero∨Ng (gz (hX.x-hY.x) (hX.y-hY.y)) 1:=by
   by_cases h:gz (hX.x-hY.x) (hX.y-hY.y)=Cp.zero
   ·exact .inl h
   ·exact .inr (gz_zero h)
  rw[hp]at ti
  rcases Nat.lt_or_ge ν m with hlt|hge
  ·obtain⟨t1,t2,t3⟩:=tab_cor m (by omega) ν hlt
   have iw:Is (fI ((m*(facN ν*cl (m-1) (ν+1)):Nat):Int)) (((m*(facN ν*cl (m-1) (ν+1)):Nat):Int):Rat):=fI_is (by omega); have F1:(1:Rat)≤((((m*(facN ν*cl (m-1) (ν+1)):Nat):Int):Rat)).abs∧((((m*(facN ν*cl (m-1) (ν+1)):Nat):Int):Rat)).abs≤10000000000:=by
    rw[show (((m*(facN ν*cl (m-1) (ν+1)):Nat):Int):Rat)=((m*(facN ν*cl (m-1) (ν+1)):Nat):Rat) by norm_cast]
    generalize m*(facN ν*cl (m-1) (ν+1))=X at *
    have a:(1:Rat)≤(X:Rat):=by exact_mod_cast t2
    have b:(X:Rat)≤10000000000:=by exact_mod_cast t3
    rw[Rat.abs_of_nonneg (by grind)]
    exact⟨a,b⟩
   obtain⟨v,V,iV,rV,hV⟩:=dv_corner iS lowS nS iw F1.1 F1.2 iD nD gD (N:=m-1-ν) (by omega)
   refine⟨v,V,_,rfl,iV,?_,fun R K=>?_⟩
   ·rw[corner_value Rn way _ (show ν≤m-1 by omega),gz_times]
    have e:Cp.of (((m*(facN ν*cl (m-1) (ν+1)):Nat):Int):Rat)*gz hY.s hY.t=Cp.of ((facN ν:Rat)*(cl (m-1) (ν+1):Rat))*(Cp.of (((m:Int)):Rat)*gz hY.s hY.t):=by
     rw[← Cp.mul_assoc,← Cp.of_mul_of]
     congr 2
     push_cast;grind
    rw[e]at rV
    exact rV
   ·rw[k,hp]
    show subK R _ _ _ _ _=_
    rw[hsub,ti]
    show fiReal R _ _=_
    rw[fi_real,fi_real]
    have wr1:IntKind.i64.wrap ((m:Int)-(ν:Int))=(m:Int)-(ν:Int):=wrapI (by omega) (by omega); have wr2:IntKind.i64.wrap ((m:Int)-1)=(m:Int)-1:=wrapI (by omega) (by omega); have wr3:IntKind.i64.wrap ((m:Int)-1-(ν:Int))=((m-1-ν:Nat):Int):=by rw[wrapI (by omega) (by omega)];omega
    have main:dv4 fiReal prodK wpowX mulK sclK (fI hY.s) (fI hY.t) d1 d2 (m:Int) (ν:Int) K=K v.1 v.2:=by
     unfold dv4
     rw[decide_eq_true (show (ν:Int)<(m:Int) by omega),cond_true]
     simp only[fi_real,wr1,wr2,wr3]
     rw[prod_look t1]
     exact hV R K
    show (bif ((ν:Int).tmod 2 == 1) then dv4 fiReal prodK wpowX mulK sclK (fI hY.s) (fI hY.t) d1 d2 (m:Int) (ν:Int) K else dv4 fiReal prodK wpowX mulK sclK (fI hY.s) (fI hY.t) d1 d2 (m:Int) (ν:Int) K)=_
    rw[main]
    cases ((ν:Int).tmod 2 == 1)<;>rfl
  ·refine⟨(0,0),Cp.zero,_,rfl,⟨by show Is _ (0:Rat);simpa using is_zero,by show Is _ (0:Rat);simpa using is_zero⟩,?_,fun R K=>?_⟩
   ·rw[Fv_far (m-1) ν (by omega),Cp.mul_zero]
    exact Rl.refl _ (by grind)
   ·rw[k,hp]
    show subK R _ _ _ _ _=_
    rw[hsub,ti]
    show fiReal R _ _=_
    rw[fi_real,fi_real]
    have main:dv4 fiReal prodK wpowX mulK sclK (fI hY.s) (fI hY.t) d1 d2 (m:Int) (ν:Int) K=K 0 0:=by
     unfold dv4
     rw[decide_eq_false (show ¬ ((ν:Int)<(m:Int)) by omega)]
     rfl
    show (bif ((ν:Int).tmod 2 == 1) then dv4 fiReal prodK wpowX mulK sclK (fI hY.s) (fI hY.t) d1 d2 (m:Int) (ν:Int) K else dv4 fiReal prodK wpowX mulK sclK (fI hY.s) (fI hY.t) d1 d2 (m:Int) (ν:Int) K)=_
    rw[main]
    cases ((ν:Int).tmod 2 == 1)<;>rfl
end
def lsm {α:Type} (f:α→Cp) (l:List α):Cp:=l.foldl (fun a y=>a+f y) Cp.zero
def lsr {α:Type} (f:α→Rat) (l:List α):Rat:=l.foldl (fun a y=>a+f y) 0
theorem lsm_snoc {α:Type} (f:α→Cp) (l:List α) (y:α):lsm f (l++[y])=lsm f l+f y:=by unfold lsm;rw[List.foldl_append];rfl
theorem lsr_snoc {α:Type} (f:α→Rat) (l:List α) (y:α):lsr f (l++[y])=lsr f l+f y:=by unfold lsr;rw[List.foldl_append];rfl
theorem lsm_filter {α:Type} (f:α→Cp) (g:Nat→α) (p:α→Bool):∀ n:Nat,lsm f (((List.range n).map g).filter p)=csm (fun i=>bif p (g i) then f (g i) else Cp.zero) n
 |0=>rfl
 |n+1=>by
  rw[List.range_succ,List.map_append,List.filter_append]
  show lsm f (_++List.filter p [g n])=csm _ n+_; cases h:p (g n) with
  |true=>
   rw[show List.filter p [g n]=[g n] by simp[h],lsm_snoc,lsm_filter f g p n];show _=_+(bif p (g n) then f (g n) else Cp.zero);rw[h];rfl
  |false=>
   rw[show List.filter p [g n]=[] by simp[h],List.append_nil,lsm_filter f g p n]
   show _=_+(bif p (g n) then f (g n) else Cp.zero)
   rw[h]
   exact(Cp.add_zero _).symm
theorem lsr_filter {α:Type} (f:α→Rat) (g:Nat→α) (p:α→Bool):∀ n:Nat,lsr f (((List.range n).map g).filter p)=rsm (fun i=>bif p (g i) then f (g i) else 0) n
 |0=>rfl
 |n+1=>by
  rw[List.range_succ,List.map_append,List.filter_append]
  show lsr f (_++List.filter p [g n])=rsm _ n+_; cases h:p (g n) with
  |true=>
   rw[show List.filter p [g n]=[g n] by simp[h],lsr_snoc,lsr_filter f g p n];show _=_+(bif p (g n) then f (g n) else 0);rw[h];rfl
  |false=>
   rw[show List.filter p [g n]=[] by simp[h],List.append_nil,lsr_filter f g p n]
   show _=_+(bif p (g n) then f (g n) else 0)
   rw[h]
   exact(Rat.add_zero _).symm
theorem lsr_mul_acc {α:Type} (c:Rat) (f:α→Rat):∀(l:List α) (a:Rat),l.foldl (fun a y=>a+c*f y) (c*a)=c*l.foldl (fun a y=>a+f y) a
 |[],_=>rfl
 |y::r,a=>by
  show r.foldl _ (c*a+c*f y)=c*r.foldl _ (a+f y)
  rw[← Rat.mul_add,lsr_mul_acc c f r]
theorem lsr_mulL {α:Type} (c:Rat) (f:α→Rat) (l:List α):lsr (fun y=>c*f y) l=c*lsr f l:=by
 have:=lsr_mul_acc c f l 0
 rw[Rat.mul_zero]at this
 exact this
theorem range_map {α:Type} [Inhabited α] (ys:List α):(List.range ys.length).map (fun k=>ys.getD k default)=ys:=by
 refine List.ext_getElem (by simp) fun i h1 h2=>?_
 rw[List.getElem_map,List.getElem_range,List.getD_eq_getElem?_getD,List.getElem?_eq_getElem h2]
 rfl
theorem filter_all {α:Type} (l:List α):l.filter (fun _=>true)=l:=by simp
theorem lsm_csm {α:Type} [Inhabited α] (f:α→Cp) (ys:List α):lsm f ys=csm (fun k=>f (ys.getD k default)) ys.length:=by
 have h:=lsm_filter f (fun k=>ys.getD k default) (fun _=>true) ys.length
 rw[filter_all,range_map]at h
 exact h
theorem lsr_rsm {α:Type} [Inhabited α] (f:α→Rat) (ys:List α):lsr f ys=rsm (fun k=>f (ys.getD k default)) ys.length:=by
 have h:=lsr_filter f (fun k=>ys.getD k default) (fun _=>true) ys.length
 rw[filter_all,range_map]at h
 exact h
theorem getD_mem {α:Type} [Inhabited α] {ys:List α} {k:Nat} (h:k<ys.length):ys.getD k default∈ys:=by
 rw[List.getD_eq_getElem?_getD,List.getElem?_eq_getElem h]
 exact List.getElem_mem h
theorem list_sum {α:Type} [Inhabited α] {ys:List α} {wf:α→Nat×Nat} {vf:α→Cp} {bf:α→Rat} {B:Rat} (hl:ys.length≤6) (hA:∀ y∈ys,IsZ (wf y).1 (wf y).2 (vf y)) (hb:∀ y∈ys,Nm (vf y) (bf y)) (hs:lsr bf ys≤B) (fB:Fit B) (hB:2*B≤big200):
  ∃(f:Nat→Nat×Nat) (Z:Cp),SumT (ys.map wf) f∧IsZ (f (ys.map wf).length).1 (f (ys.map wf).length).2 Z∧Nm (Z-lsm vf ys) (6*eps*B)∧Nm Z (1001/1000*B):=by
 have ep:=eps_pos; have et:=eps_tiny
 rw[lsr_rsm]at hs
 have hb':∀ k,k<ys.length→Nm (vf (ys.getD k default)) (bf (ys.getD k default)):=fun k hk=>hb _ (getD_mem hk)
 obtain⟨g,g0,g1,g2,g3⟩:=sum_words (q:=fun k=>wf (ys.getD k default)) (A:=fun k=>vf (ys.getD k default)) (b:=fun k=>bf (ys.getD k default)) (n:=ys.length) (B:=B) (by omega) (fun k hk=>hA _ (getD_mem hk)) hb' hs fB hB
 obtain⟨Z,iZ,dZ⟩:=g3 ys.length (Nat.le_refl _)
 have B0:0≤B:=Rat.le_trans (rsm_nonneg fun k hk=>(hb' k hk).1) hs; have e:lst (fun k=>wf (ys.getD k default)) ys.length=ys.map wf:=by
  unfold lst
  rw[show (fun k=>wf (ys.getD k default))=wf ∘ (fun k=>ys.getD k default) from rfl,← List.map_map,range_map]
 have sT:=sumT_of (n:=ys.length) g0 g1 g2
 rw[e]at sT
 have n6:(ys.length:Rat)≤6:=by exact_mod_cast hl
 have d2:Nm (Z-lsm vf ys) (6*eps*B):=by
  rw[lsm_csm]
  refine dZ.mono ?_
  have:=Rat.mul_le_mul_of_nonneg_right n6 (Rat.mul_nonneg (Rat.le_of_lt ep) B0)
  grind
 have n2:Nm (lsm vf ys) B:=by
  rw[lsm_csm]
  exact(nm_csm_rsm hb').mono hs
 refine⟨g,Z,sT,by rw[List.length_map];exact iZ,d2,(d2.near n2).mono ?_⟩
 have:=Rat.mul_le_mul_of_nonneg_right et B0
 grind
section
variable {cx cy r:Int} {hs:List Th} {n:Int} {S:Sight (fI cx) (fI cy) (fI r)}
theorem lw_any (g:Vm.Good S hs n) {h:Th} (hm:h∈hs):∃ L,Is (S.lw h.el) L∧0≤L:=by
 by_cases h0:h.x-cx=0∧h.y-cy=0
 ·obtain⟨d1,d2,hd,b1,b2,hw⟩:=lw_word g hm
  rw[h0.1,h0.2]at hd
  have z0:(((0:Int):Rat)).abs≤1:=by rw[show ((0:Int):Rat)=0 from rfl,abs_zero];decide
  obtain⟨l,L,iL,L0,_,_,hL,hl'⟩:=lengthK_most (d:=1) hd.1 hd.2 z0 z0 (Rat.le_trans (p2_le (show (-900:Int)≤0 by decide)) (by rw[Rat.zpow_zero];decide)) (Rat.le_trans (show (1:Rat)≤(2:Rat)^(0:Int) by rw[Rat.zpow_zero];decide) (p2_le (by decide))) (.inl ⟨rfl,rfl⟩)
  exact⟨L,by rw[hw l hl'];exact iL,L0⟩
 ·obtain⟨L,iL,L0,_⟩:=lw_is g hm h0
  exact⟨L,iL,L0⟩
theorem lt_half (g:Vm.Good S hs n) {h:Th} (hm:h∈hs) (hk:h.kind=2∨h.kind=3):ltF (S.lw h.el) (fI r)=leF (S.lw h.el) (halfW (fI r)):=by
 obtain⟨L,iL,L0⟩:=lw_any g hm
 obtain⟨r1,r2⟩:=r_in g
 have gr1:=g.r1; have gr2:=g.r2; have ir:Is (fI r) (r:Rat):=fI_is (by omega); have w:=g.well h hm; unfold wellV at w; have k1:(h.el.kind == 1)=false:=by show (h.kind == 1)=false;rcases hk with e|e<;>rw[e]<;>rfl
 have k4:(h.el.kind == 4)=false:=by show (h.kind == 4)=false;rcases hk with e|e<;>rw[e]<;>rfl
 rw[k1,k4,Bool.false_or,Bool.false_or]at w
 rw[leF_is iL (half_of g.r1 g.r2).2,geF_is iL (twice_of g.r1 g.r2).2]at w
 rw[ltF_is iL ir,leF_is iL (half_of g.r1 g.r2).2]
 by_cases a:L≤(r:Rat)/2
 ·rw[decide_eq_true a,decide_eq_true (show L<(r:Rat) by grind)]
 ·rw[decide_eq_false a,Bool.false_or]at w
  have:=of_decide_eq_true w
  rw[decide_eq_false a,decide_eq_false (show ¬ L<(r:Rat) by grind)]
theorem insS_eq (g:Vm.Good S hs n) {h:Th} (hm:h∈hs):insS S h=(h.kind == 2 && insB S h):=by
 unfold insS inB sideOf insB; show (h.kind == 2 && decide ((bif h.kind == 1 then (0:Int) else bif ltF (S.lw h.el) (fI r) then -1 else 1)<0))=_; by_cases k:h.kind=2
 ·rw[lt_half g hm (.inl k),k]
  show (true && decide ((bif leF (S.lw h.el) (halfW (fI r)) then (-1:Int) else 1)<0))=(true && (true && leF (S.lw h.el) (halfW (fI r)))); cases leF (S.lw h.el) (halfW (fI r))<;>rfl
 ·have:(h.kind == 2)=false:=by simpa using k
  rw[this];rfl
end
section
variable {cx cy r:Int} {S:Sight (fI cx) (fI cy) (fI r)} {hs:List Th} {n:Nat} {dK zK dM zM:Nat→Nat×Nat} {DK ZK DM ZM z w zm wm:Nat→Cp} {c:Th→Nat×Nat} {C:Th→Cp} {s:Th→Sd} {κ:Th→Cp} {v vM:Th→Nat→Nat×Nat} {V:Th→Nat→Cp} {wM:Th→Nat→Nat} {L:Th→Nat→Rat}
 (T:Dat S hs n dK zK dM zM DK ZK DM ZM z w zm wm c C s κ v vM V wM L)
def mT (L:Th→Nat→Rat) (n:Nat) (h:Th):Rat:=rsm (fun k=>1017/1000*L h k) n/(n:Rat)
theorem mH_eq (i:Nat):mH hs L n i=mT L n (Hn hs i):=rfl
theorem hs_range (hs:List Th):(List.range hs.length).map (Hn hs)=hs:=by
 refine List.ext_getElem (by simp) fun i h1 h2=>?_
 rw[List.getElem_map,List.getElem_range]
 unfold Hn
 rw[List.getD_eq_getElem?_getD,List.getElem?_eq_getElem h2]
 rfl
include T
theorem size_h {h:Th} (hm:h∈hs):1≤(s h).W∧0≤mT L n h∧Nm (κ h) (600*mT L n h/(s h).W)∧(mT L n h=0∨(2:Rat)^(-200:Int)≤mT L n h):=by
 have e:=T.E h hm
 obtain⟨B,b1,b2⟩:=side_size T.P.pz T.P.pw T.P.zw (n_pos T) e.side e.elw
 have W1:1≤(s h).W:=by
  have ok:=e.side.ok; revert ok; cases s h with
  |inn b qb q=>exact fun ok=>(prod_sup T.P.pz.one (repF_ok ok.1 q) (T.P.pw.at_ 0 (n_pos T))).2
  |out l=>exact fun ok=>(prod_sup T.P.pz.one ok.1 (T.P.pz.at_ 0 (n_pos T))).2
 have m0:=e.elw.m0 (n_pos T)
 refine⟨W1,m0,b1.mono (le_div (by grind) b2),?_⟩
 have hn:=nR T; have x2:(n:Rat)*mT L n h=0∨(2:Rat)^(-180:Int)≤(n:Rat)*mT L n h:=by
  rw[show (n:Rat)*mT L n h=rsm (fun k=>1017/1000*L h k) n from (mean_eq (n_pos T)).symm]
  exact ft_sum fun k hk=>⟨Rat.mul_nonneg (by decide +kernel) (e.L0 k hk),ft_times (by decide +kernel) (e.L0 k hk) (e.fL k hk)⟩
 rcases ft_mean T hn (p2_pos _) x2 with a|a
 ·exact .inl a
 ·right; refine Rat.le_trans ?_ a; have e:(2:Rat)^(-180:Int)=(2:Rat)^(-200:Int)*(2:Rat)^(20:Int):=by rw[← p2_add];rfl
  rw[e,show (2:Rat)^(20:Int)=1048576 by rw[show (20:Int)=((20:Nat):Int) by rfl,p2_nat];rfl]
  have:=p2_pos (-200)
  generalize (2:Rat)^(-200:Int)=q at *
  grind
theorem M_lsr:MH hs L n=lsr (mT L n) hs:=by
 have h:=lsr_filter (mT L n) (Hn hs) (fun _=>true) hs.length
 rw[filter_all,hs_range]at h
 exact h.symm
theorem lsr_part (p:Th→Bool):lsr (mT L n) (hs.filter p)≤MH hs L n:=by
 have h:=lsr_filter (mT L n) (Hn hs) p hs.length
 rw[hs_range]at h
 rw[h]
 refine rsm_mono fun i hi=>?_
 have:=(size_h T (Hn_mem hi)).2.1
 rw[mH_eq]
 cases p (Hn hs i)
 ·exact this
 ·exact Rat.le_refl
end
end Go.Vx
