/- A part of the evaluator and of what is told of floats; no conditions. -/
import Derived.Test.YtaogignikkjkjaaGreatVmWC1
import Derived.Test.YtaogignikkjkjaaGreatVmXJ
import Derived.Test.YtaogignikkjkjaaGreatVmP26
set_option linter.unusedSectionVars false
set_option linter.unusedSimpArgs false
set_option linter.unusedVariables false
set_option maxRecDepth 1000000
namespace Go.Vx
open Go.Vm Go.Proofs Ieee
def gmm (cx cy r:Int) (h:Th):Cp:=Cp.of ((r:Rat))⁻¹*Go.Vx.gz (h.x-cx) (h.y-cy)
section
variable {cx cy r:Int} {hs:List Th} {n:Int} {S:Sight (fI cx) (fI cy) (fI r)}
theorem lw_word (g:Vm.Good S hs n) {h:Th} (hm:h∈hs):∃ d1 d2,IsC d1 d2 (h.x-cx) (h.y-cy)∧(h.x-cx).natAbs≤4000∧(h.y-cy).natAbs≤4000∧∀ l,(∀(R:Type) (k:Nat→Option R),lengthK R d1 d2 k=k l)→S.lw h.el=l:=by
 have f:=g.fine h hm; have b:=f.xy; have bc:=smI_le g.c; have hc:IsC (fI cx) (fI cy) cx cy:=⟨fI_is (by omega),fI_is (by omega)⟩
 obtain⟨d1,d2,hd,hsub⟩:=subK_int f.at hc (by omega) (by omega)
 refine⟨d1,d2,hd,by omega,by omega,fun l hl=>?_⟩
 have hsee:=g.see h f; have a:=hsee Nat some; unfold outC at a; have b:=(hsub Nat fun d1 d2=>lengthK Nat d1 d2 some); have c:=hl Nat some
 have:(some (S.lw h.el):Option Nat)=some l:=a.symm.trans (b.trans c)
 exact Option.some.inj this
theorem lw_is (g:Vm.Good S hs n) {h:Th} (hm:h∈hs) (h0:¬ (h.x-cx=0∧h.y-cy=0)):∃ L,Is (S.lw h.el) L∧0≤L∧
  (L*L-(((h.x-cx)*(h.x-cx)+(h.y-cy)*(h.y-cy):Int):Rat)).abs≤4*eps*(((h.x-cx)*(h.x-cx)+(h.y-cy)*(h.y-cy):Int):Rat):=by
 obtain⟨d1,d2,hd,b1,b2,hw⟩:=lw_word g hm
 obtain⟨l,L,iL,L0,hL,hl⟩:=lengthK_ints hd.1 hd.2 b1 b2 h0
 rw[hw l hl]
 exact⟨L,iL,L0,hL⟩
theorem gmm_nsq (h:Th) (hr:(r:Rat)≠0):(gmm cx cy r h).nsq*((r:Rat)*(r:Rat))=(((h.x-cx)*(h.x-cx)+(h.y-cy)*(h.y-cy):Int):Rat):=by
 unfold gmm
 rw[of_mul_nsq]
 have e:(Go.Vx.gz (h.x-cx) (h.y-cy)).nsq=(((h.x-cx)*(h.x-cx)+(h.y-cy)*(h.y-cy):Int):Rat):=by
  unfold Go.Vx.gz Cp.nsq; push_cast; rfl
 rw[e]
 have:=Rat.inv_mul_cancel _ hr
 generalize ((r:Rat))⁻¹=i at *
 generalize (((h.x-cx)*(h.x-cx)+(h.y-cy)*(h.y-cy):Int):Rat)=N; have e2:i*i*N*((r:Rat)*(r:Rat))=N*((i*r)*(i*r)):=by grind
 rw[e2,this];grind
theorem r_in (g:Vm.Good S hs n):(1:Rat)≤(r:Rat)∧(r:Rat)≤1000:=by
 have r1:((1:Int):Rat)≤(r:Rat):=Rat.intCast_le_intCast.2 g.r1; have r2:(r:Rat)≤((1000:Int):Rat):=Rat.intCast_le_intCast.2 g.r2
 exact⟨r1,r2⟩
theorem gmm_zero {h:Th} (h0:h.x-cx=0∧h.y-cy=0):gmm cx cy r h=Cp.zero:=by
 unfold gmm
 rw[h0.1,h0.2]
 have e:Go.Vx.gz 0 0=Cp.zero:=rfl
 rw[e,Cp.mul_zero]
theorem root_le {q c:Rat} (hc:0≤c) {x:Cp} (h:x.nsq≤q) (hq:q≤c*c):Nm x c:=⟨hc,Rat.le_trans h hq⟩
theorem inside_nm (g:Vm.Good S hs n) {h:Th} (hm:h∈hs) (hl:leF (S.lw h.el) (halfW (fI r))=true):Nm (gmm cx cy r h) (5075/10000):=by
 by_cases h0:h.x-cx=0∧h.y-cy=0
 ·rw[gmm_zero h0];exact nm_zero.mono (by decide +kernel)
 obtain⟨L,iL,L0,hL⟩:=lw_is g hm h0
 rw[leF_is iL (half_of g.r1 g.r2).2]at hl
 have hl:=of_decide_eq_true hl
 obtain⟨r1,r2⟩:=r_in g
 have et:=eps_tiny; have ep:=eps_pos; have e:=gmm_nsq (cx:=cx) (cy:=cy) (r:=r) h (by grind); generalize (((h.x-cx)*(h.x-cx)+(h.y-cy)*(h.y-cy):Int):Rat)=N at *
 have sq:=mul_mono' hl hl L0 (by grind); have a:=abs_le_iff.1 hL; have q0:=(gmm cx cy r h).nsq_nonneg; have rr:0<(r:Rat)*(r:Rat):=Rat.mul_pos (by grind) (by grind); have N0:0≤N:=by rw[← e];exact Rat.mul_nonneg q0 (Rat.le_of_lt rr)
 have en:=Rat.mul_le_mul_of_nonneg_right et N0; have hN:N≤2501/10000*((r:Rat)*(r:Rat)):=by grind
 refine root_le (q:=2501/10000) (by decide +kernel) ?_ (by decide +kernel)
 refine Rat.not_lt.1 fun hlt=>?_
 have:=Rat.mul_lt_mul_of_pos_right hlt rr
 grind
theorem outside_ng (g:Vm.Good S hs n) {h:Th} (hm:h∈hs) (hl:geF (S.lw h.el) (twiceW (fI r))=true):Ng (gmm cx cy r h) (197058/100000):=by
 obtain⟨r1,r2⟩:=r_in g
 have et:=eps_tiny; have ep:=eps_pos; have rr:0<(r:Rat)*(r:Rat):=Rat.mul_pos (by grind) (by grind); by_cases h0:h.x-cx=0∧h.y-cy=0
 ·exfalso
  obtain⟨d1,d2,hd,b1,b2,hw⟩:=lw_word g hm
  rw[h0.1,h0.2]at hd
  have z0:(((0:Int):Rat)).abs≤1:=by rw[show ((0:Int):Rat)=0 from rfl,abs_zero];decide
  obtain⟨l,L,iL,L0,_,_,hL,hl'⟩:=lengthK_most (d:=1) hd.1 hd.2 z0 z0 (Rat.le_trans (p2_le (show (-900:Int)≤0 by decide)) (by rw[Rat.zpow_zero];decide)) (Rat.le_trans (show (1:Rat)≤(2:Rat)^(0:Int) by rw[Rat.zpow_zero];decide) (p2_le (by decide))) (.inl ⟨rfl,rfl⟩)
  rw[hw l hl',geF_is iL (twice_of g.r1 g.r2).2]at hl
  have hl:=of_decide_eq_true hl; have zz:((0:Int):Rat)=0:=rfl
  rw[zz]at hL
  have:=mul_mono' hl hl (by grind) L0
  grind
 obtain⟨L,iL,L0,hL⟩:=lw_is g hm h0
 rw[geF_is iL (twice_of g.r1 g.r2).2]at hl
 have hl:=of_decide_eq_true hl; have e:=gmm_nsq (cx:=cx) (cy:=cy) (r:=r) h (by grind); generalize (((h.x-cx)*(h.x-cx)+(h.y-cy)*(h.y-cy):Int):Rat)=N at *
 have sq:=mul_mono' hl hl (by grind) L0; have a:=abs_le_iff.1 hL; have q0:=(gmm cx cy r h).nsq_nonneg; have N0:0≤N:=by rw[← e];exact Rat.mul_nonneg q0 (Rat.le_of_lt rr)
 have en:=Rat.mul_le_mul_of_nonneg_right et N0; have hN:39/10*((r:Rat)*(r:Rat))≤N:=by grind
 refine⟨by decide +kernel,Rat.le_trans (b:=39/10) (by decide +kernel) ?_⟩
 refine Rat.not_lt.1 fun hlt=>?_
 have:=Rat.mul_lt_mul_of_pos_right hlt rr
 grind
end
theorem dist_low (x y:Cp):(x.nsq-y.nsq)*(x.nsq-y.nsq)≤(x-y).nsq*(2*(x.nsq+y.nsq)):=by
 have c:(x.re*y.re+x.im*y.im)*(x.re*y.re+x.im*y.im)≤x.nsq*y.nsq:=by
  have:=sq_nonneg (x.re*y.im-x.im*y.re)
  unfold Cp.nsq; grind
 have e:(x-y).nsq=x.nsq+y.nsq-2*(x.re*y.re+x.im*y.im):=by
  unfold Cp.nsq; simp only[Cp.sub_re,Cp.sub_im]; grind
 rw[e]
 generalize x.re*y.re+x.im*y.im=C at *
 generalize x.nsq=p at *
 generalize y.nsq=q at *
 have:=sq_nonneg (p+q-2*C)
 grind
theorem off_far {x y:Cp} (hx:(x.nsq-1).abs≤1/1000000000) (hy:1/1000000≤(y.nsq-1).abs):Ng (x-y) (3/10000000):=by
 have h:=dist_low x y; have y0:=y.nsq_nonneg; have a:=abs_le_iff.1 hx; have d0:=(x-y).nsq_nonneg
 refine⟨by decide +kernel,?_⟩
 generalize (x-y).nsq=D at *
 generalize hp:x.nsq=p at *
 generalize hq:y.nsq=q at *
 refine Rat.not_lt.1 fun hl=>?_
 have two:0<2*(p+q):=by grind
 have h2:=Rat.mul_lt_mul_of_pos_right hl two
 rcases(Rat.le_total:q≤4∨4≤q) with h4|h4
 ·have sq:998/1000000000*(998/1000000000)≤(p-q)*(p-q):=by
   have b:999/1000000000≤(p-q).abs:=by
    have t:=abs_add_le (q-p) (p-1)
    rw[show q-p+(p-1)=q-1 by grind,abs_sub_comm q p]at t
    grind
   have:=mul_mono' b b (by decide +kernel) (abs_nonneg _)
   rw[abs_sq]at this
   grind
  grind
 ·have b:2≤q-p:=by grind
  have:=mul_mono' b (show q/4≤q-p by grind) (by grind) (by grind)
  grind
theorem sq_near {L r e:Rat} (r1:1≤r) (L0:0≤L) (a:-(4*e*(r*r))≤L*L-r*r∧L*L-r*r≤4*e*(r*r)) (err:e*(r*r)≤1/1000000000000000*(r*r)):r*(1-1/10000000)≤L∧L≤r*(1+1/10000000):=by
 have rr:=mul_mono' r1 r1 (by decide) (show 0≤r by grind); constructor
 ·refine Rat.not_lt.1 fun hl=>?_
  have:=mul_mono' (Rat.le_of_lt hl) (Rat.le_of_lt hl) L0 (by grind)
  grind
 ·refine Rat.not_lt.1 fun hl=>?_
  have:=mul_mono' (Rat.le_of_lt hl) (Rat.le_of_lt hl) (by grind) L0
  grind
section
variable {cx cy r:Int} {hs:List Th} {n:Int} {S:Sight (fI cx) (fI cy) (fI r)}
theorem corner_off (g:Vm.Good S hs n) {h:Th} (hm:h∈hs) (hk:h.kind=4):(h.x-cx)*(h.x-cx)+(h.y-cy)*(h.y-cy)≠r*r:=fun e=>by
 obtain⟨r1,r2⟩:=r_in g
 have et:=eps_tiny; have ep:=eps_pos; have gr1:=g.r1; have gr2:=g.r2; have h0:¬ (h.x-cx=0∧h.y-cy=0):=fun hz=>by
  rw[hz.1,hz.2]at e
  have:0<r*r:=Int.mul_pos (by omega) (by omega)
  omega
 obtain⟨L,iL,L0,hL⟩:=lw_is g hm h0
 rw[e]at hL
 have er:((r*r:Int):Rat)=(r:Rat)*(r:Rat):=by push_cast;rfl
 rw[er]at hL
 have hr:Is (fI r) r:=fI_is (by omega); have T1:(r:Rat)*(2:Rat)^(-20:Int)=(r:Rat)*(1/1048576):=by rw[p20m]
 obtain⟨t,T,e1,i1,q1⟩:=mul_is hr is_hair (lt_big (by rw[T1];exact abs_le_iff.2 ⟨by grind,by grind⟩))
 have eT:T=r*(2:Rat)^(-20:Int):=q1.rep r (-20) (by omega) (by decide) rfl
 rw[T1]at eT
 have ht:=S.ht
 rw[e1]at ht
 have ht:=Option.some.inj ht
 obtain⟨p,P,e2,i2,q2⟩:=add_is hr i1 (lt_big (by rw[eT];exact abs_le_iff.2 ⟨by grind,by grind⟩))
 obtain⟨m,M,e3,i3,q3⟩:=sub_is hr i1 (lt_big (by rw[eT];exact abs_le_iff.2 ⟨by grind,by grind⟩))
 have hp:=S.hp; have hmm:=S.hm
 rw[← ht,e2]at hp
 rw[← ht,e3]at hmm
 have hp:=Option.some.inj hp; have hmm:=Option.some.inj hmm; have d2:=rnd_q q2 (B:=2*r) (by rw[eT];exact abs_le_iff.2 ⟨by grind,by grind⟩) (Rat.le_trans p1000_le (by grind)); have d3:=rnd_q q3 (B:=2*r) (by rw[eT];exact abs_le_iff.2 ⟨by grind,by grind⟩) (Rat.le_trans p1000_le (by grind)); have a2:=abs_le_iff.1 d2; have a3:=abs_le_iff.1 d3; have a:=abs_le_iff.1 hL; have er':=Rat.mul_le_mul_of_nonneg_right et (show 0≤(r:Rat) by grind); have rr:=Rat.mul_nonneg (show 0≤(r:Rat) by grind) (show 0≤(r:Rat) by grind); have err:=Rat.mul_le_mul_of_nonneg_right et rr
 obtain⟨l2,l1⟩:=sq_near r1 L0 a err
 have off:=g.off h hm; unfold tooNear at off; have k1:(h.el.kind != 1)=true:=by
  show (h.kind != 1)=true
  rw[hk];rfl
 rw[k1,Bool.true_and,← hp,← hmm,leF_is iL i2,geF_is iL i3,decide_eq_true (by grind),decide_eq_true (by grind)]at off
 cases off
theorem corner_nsq (g:Vm.Good S hs n) {h:Th} (hm:h∈hs) (hk:h.kind=4):1/1000000≤((gmm cx cy r h).nsq-1).abs:=by
 obtain⟨r1,r2⟩:=r_in g
 have e:=gmm_nsq (cx:=cx) (cy:=cy) (r:=r) h (by grind); have hne:=corner_off g hm hk; have er:((r*r:Int):Rat)=(r:Rat)*(r:Rat):=by push_cast;rfl
 generalize hN:(h.x-cx)*(h.x-cx)+(h.y-cy)*(h.y-cy)=N at *
 have big:1≤((N:Rat)-(r:Rat)*(r:Rat)).abs:=by
  rw[← er]
  have c:(N:Rat)-((r*r:Int):Rat)=((N-r*r:Int):Rat):=by push_cast;rfl
  rw[c]
  generalize hd:N-r*r=d; have dne:d≠0:=by omega
  rcases Int.lt_or_gt_of_ne dne with h|h
  ·have:(d:Rat)≤((-1:Int):Rat):=Rat.intCast_le_intCast.2 (by omega)
   rw[show ((-1:Int):Rat)=-1 from rfl]at this
   rw[Rat.abs_of_nonpos (by grind)]
   grind
  ·have:((1:Int):Rat)≤(d:Rat):=Rat.intCast_le_intCast.2 (by omega)
   rw[show ((1:Int):Rat)=1 from rfl]at this
   rw[Rat.abs_of_nonneg (by grind)]
   exact this
 rw[← e]at big
 have rr:=mul_mono' r2 r2 (by grind) (by decide); have rr0:0<(r:Rat)*(r:Rat):=Rat.mul_pos (by grind) (by grind); have e2:(gmm cx cy r h).nsq*((r:Rat)*(r:Rat))-(r:Rat)*(r:Rat)=((gmm cx cy r h).nsq-1)*((r:Rat)*(r:Rat)):=by grind
 rw[e2,abs_mul,Rat.abs_of_nonneg (Rat.le_of_lt rr0)]at big
 generalize ((gmm cx cy r h).nsq-1).abs=D at *
 refine Rat.not_lt.1 fun hl=>?_
 have:=Rat.mul_lt_mul_of_pos_right hl rr0
 grind
end
theorem fI_wrd:∀ m:Nat,1≤m→m≤8→fI (m:Int)=wrd m
 |1,_,_=>by kernel_rfl
 |2,_,_=>by kernel_rfl
 |3,_,_=>by kernel_rfl
 |4,_,_=>by kernel_rfl
 |5,_,_=>by kernel_rfl
 |6,_,_=>by kernel_rfl
 |7,_,_=>by kernel_rfl
 |8,_,_=>by kernel_rfl
 |0,h,_=>absurd h (by omega)
 |n+9,_,h=>absurd h (by omega)
theorem lit8:Is 4620693217682128896 ((8:Int):Rat):=lit_is (by decide) (by decide)
theorem lit4:Is 4616189618054758400 ((4:Int):Rat):=lit_is (by decide) (by decide)
theorem lit1:Is 4607182418800017408 ((1:Int):Rat):=lit_is (by decide) (by decide)
section
variable {cx cy r:Int} {hs:List Th} {n:Int} {S:Sight (fI cx) (fI cy) (fI r)}
theorem chk_v (g:Vm.Good S hs n) {h:Th} (hm:h∈hs):checkV h.kind (decide (h.x=0∧h.y=0)) (fI h.p)=0:=by
 have f:=g.fine h hm; have b:=f.xy; have hp:=f.pow; have h1:=erE_told f Int some; have h2:=check_eq (kind:=h.kind) f.at f.st (by omega) (by omega) (by omega) (by omega) (fI_is (n:=h.p) (by omega)).1 (some:Int→Option Int); have e:(some (erE h.el):Option Int)=some (checkV h.kind (decide (h.x=0∧h.y=0)) (fI h.p)):=h1.symm.trans h2
 rw[g.chk h hm]at e
 exact(Option.some.inj e).symm
theorem eld (g:Vm.Good S hs n) {h:Th} (hm:h∈hs):ElD h.kind (fI h.x) (fI h.y) (fI h.s) (fI h.t) (fI h.p) h.x h.y h.s h.t:=by
 have f:=g.fine h hm; have b:=f.xy; have hp:=f.pow
 exact⟨f.at,f.st,b.1,b.2.1,b.2.2.1,b.2.2.2,(fI_is (n:=h.p) (by omega)).1,chk_v g hm⟩
theorem kinds (g:Vm.Good S hs n) {h:Th} (hm:h∈hs):h.kind=1∨h.kind=2∨(h.kind=3∧∃ m:Nat,1≤m∧m≤8∧h.p=(m:Int))∨(h.kind=4∧∃ m:Nat,1≤m∧m≤4∧h.p=(m:Int)):=by
 have c:=chk_v g hm; have f:=g.fine h hm; have hp:=f.pow; have ip:Is (fI h.p) (h.p:Rat):=fI_is (by omega); by_cases k1:h.kind=1
 ·exact .inl k1
 by_cases k2:h.kind=2
 ·exact .inr (.inl k2)
 unfold checkV at c; cases a1:decide (h.kind<1) with
 |true=>rw[a1]at c;simp at c
 |false=>
 rw[a1]at c
 cases a2:decide (h.kind > 4) with
 |true=>rw[a2]at c;simp at c
 |false=>
 rw[a2]at c
 cases a3:leF (absW (fI h.p)) 4787326403894837248 with
 |false=>rw[a3]at c;simp at c
 |true=>
 rw[a3]at c
 have n1:(h.kind == 1)=false:=by simpa using k1
 have n2:(h.kind == 2)=false:=by simpa using k2
 rw[n1,n2]at c
 have a1:=of_decide_eq_false a1; have a2:=of_decide_eq_false a2; by_cases k3:h.kind=3
 ·right;right;left
  refine⟨k3,?_⟩
  have n3:(h.kind == 3)=true:=by simpa using k3
  rw[n3]at c
  cases a4:eqF (wholeW (fI h.p)) (fI h.p) with
  |false=>rw[a4]at c;simp at c
  |true=>
  rw[a4,geF_is ip lit1,leF_is ip lit8]at c
  by_cases u1:((1:Int):Rat)≤(h.p:Rat)
  ·by_cases u2:(h.p:Rat)≤((8:Int):Rat)
   ·have v1:=Rat.intCast_le_intCast.1 u1; have v2:=Rat.intCast_le_intCast.1 u2
    exact⟨h.p.toNat,by omega,by omega,by omega⟩
   ·rw[decide_eq_true u1,decide_eq_false u2]at c;simp at c
  ·rw[decide_eq_false u1]at c;simp at c
 ·right;right;right
  refine⟨by omega,?_⟩
  have n3:(h.kind == 3)=false:=by simpa using k3
  rw[n3]at c
  by_cases v0:h.p≤0
  ·exfalso; have hf:¬ ((1/4:Rat)≤(h.p:Rat)):=fun hq=>by
    have:(h.p:Rat)≤((0:Int):Rat):=Rat.intCast_le_intCast.2 v0
    rw[show ((0:Int):Rat)=0 from rfl]at this
    grind
   rw[geF_is ip quarter_is,decide_eq_false hf]at c
   simp at c
  ·rw[leF_is ip lit4]at c
   by_cases u2:(h.p:Rat)≤((4:Int):Rat)
   ·have v2:=Rat.intCast_le_intCast.1 u2
    exact⟨h.p.toNat,by omega,by omega,by omega⟩
   ·rw[decide_eq_false u2]at c
    exfalso; revert c; cases geF (fI h.p) 4598175219545276416<;>simp
end
open Go.Vm Ieee
structure Plc (c1 c2:Nat) (cx cy:Int) (R:Rat) (d z:Nat×Nat) (D Z:Cp):Prop where
 iD:IsZ d.1 d.2 D
 iZ:IsZ z.1 z.2 Z
 nD:Nm D (1001/1000*R)
 nZ:Nm Z 10000
 r1:(Z.re-((cx:Rat)+D.re)).abs≤eps/4*(1002*R)
 r2:(Z.im-((cy:Rat)+D.im)).abs≤eps/4*(1002*R)
 add:∀(T:Type) (K:Nat→Nat→Option T),addK T c1 c2 d.1 d.2 K=K z.1 z.2
section
variable {Q h:Rat} {n k:Nat} (hQ:Circ Q) (n1:128≤n) (n2:n≤512) (hh:(n:Rat)*h=Q) (hk:k<n)
 {c1 c2 r t:Nat} {cx cy:Int} {R τ:Rat} (hc:IsC c1 c2 cx cy) (b1:cx.natAbs≤1000) (b2:cy.natAbs≤1000) (hr:Is r R) (R1:1≤R) (R2:R≤2000)
include hQ n1 n2 hh hk hc b1 b2 hr R1 R2
theorem plc_of (ht:Is t τ) (t0:0≤τ) (t1:τ≤64/10) (dτ:(τ-(k:Rat)*h).abs≤54/10*eps):∃ d z D Z,Plc c1 c2 cx cy R d z D Z∧Nm (Cp.of R⁻¹*D-om ((k:Rat)*h)) (16*eps)∧
  ∀(T:Type) (K:Nat→Nat→Option T),(turnK T t fun s c=>bindF (fbF .mul r c) fun x=>bindF (fbF .mul r s) fun y=>K x y)=K d.1 d.2:=by
 have ep:=eps_pos; have et:=eps_tiny; have kt:=kp_tiny; have k0:=kp0
 obtain⟨x,y,D,iD,dD,hK⟩:=place_near hQ n1 n2 hh hk hr R1 (Rat.le_trans R2 (by decide +kernel)) ht t0 t1 dτ
 have nk:=om_k hQ n1 n2 hh (Nat.le_of_lt hk); have nζ:Nm (Cp.of R⁻¹*D) (1001/1000):=(dD.near nk).mono (by grind); have Rn:R≠0:=by grind
 have nD:Nm D (1001/1000*R):=by
  have e:Cp.of R*(Cp.of R⁻¹*D)=D:=by
   rw[← Cp.mul_assoc,← Cp.of_mul_of,Rat.mul_inv_cancel _ Rn]
   exact Cp.one_mul D
  have:=(nm_of (x:=R) (r:=R) (by rw[Rat.abs_of_nonneg (by grind)];exact Rat.le_refl)).mul nζ
  rw[e]at this
  exact this.mono (by grind)
 obtain⟨z1,z2,Z,iZ,nZ,q1,q2,hA⟩:=place_at hc b1 b2 R1 R2 iD nD
 exact⟨(x,y),(z1,z2),D,Z,⟨iD,iZ,nD,nZ,q1,q2,hA⟩,dD,hK⟩
theorem plcK:∃ d z D Z,Plc c1 c2 cx cy R d z D Z∧Nm (Cp.of R⁻¹*D-om ((k:Rat)*h)) (16*eps)∧∀(T:Type) (K:Nat→Nat→Option T),
  (forceN (floatOfInt .f64 (k:Int)) fun a=>bindF (fbF .mul 4611686018427387904 a) fun a=>bindF (fbF .mul a 4614256656552045848) fun a=>forceN (floatOfInt .f64 (n:Int)) fun b=>bindF (fbF .quo a b) fun t=>
   turnK T t fun s c=>bindF (fbF .mul r c) fun x=>bindF (fbF .mul r s) fun y=>K x y)=K d.1 d.2:=by
 obtain⟨t,τ,h1,h2,h3,h4,h5⟩:=angleK hQ n1 n2 hh hk
 obtain⟨d,z,D,Z,p1,p2,p3⟩:=plc_of hQ n1 n2 hh hk hc b1 b2 hr R1 R2 h1 h2 h3 h4
 exact⟨d,z,D,Z,p1,p2,fun T K=>(h5 T _).trans (p3 T K)⟩
theorem plcM:∃ d z D Z,Plc c1 c2 cx cy R d z D Z∧Nm (Cp.of R⁻¹*D-om ((k:Rat)*h)) (16*eps)∧∀(T:Type) (K:Nat→Nat→Option T),
  (forceN (floatOfInt .f64 (k:Int)) fun a=>bindF (fbF .mul 4618760256179416344 a) fun a=>forceN (floatOfInt .f64 (n:Int)) fun b=>bindF (fbF .quo a b) fun t=>
   turnK T t fun s c=>bindF (fbF .mul r c) fun x=>bindF (fbF .mul r s) fun y=>K x y)=K d.1 d.2:=by
 obtain⟨t,τ,h1,h2,h3,h4,h5⟩:=angleM hQ n1 n2 hh hk
 obtain⟨d,z,D,Z,p1,p2,p3⟩:=plc_of hQ n1 n2 hh hk hc b1 b2 hr R1 R2 h1 h2 h3 h4
 exact⟨d,z,D,Z,p1,p2,fun T K=>(h5 T _).trans (p3 T K)⟩
end
theorem rl_use {V X:Cp} {δ l:Rat} (h:Rl V X δ) (d0:0≤δ) (hd:δ≤1/1000) (hl:Nm V l):Nm X ((1+101/100*δ)*l):=by
 have a:=hl.sub (rl_err h d0 hd hl); have e:V-(V-X)=X:=Cp.ext' (by simp only[Cp.sub_re];grind) (by simp only[Cp.sub_im];grind)
 rw[e]at a
 exact a.mono (by grind)
theorem rl_len {V X:Cp} {δ l:Rat} (h:Rl V X δ) (hl:Nm X l):Nm V ((1+δ)*l):=by
 obtain⟨e,e1,rfl⟩:=h
 exact(hl.mul (nm_one.add e1)).mono (by grind)
theorem two_small:2300*eps≤4/1000000000000:=by rw[eps_eq];decide +kernel
theorem close_E {EK EM:Cp} {R:Rat} (R1:1≤R) (d:Nm (Cp.of R⁻¹*EK-Cp.of R⁻¹*EM) (2300*eps)) (far:Ng (Cp.of R⁻¹*EM) (29/100000000)):Rl EK EM (1/70000)∧EM.nsq≠0:=by
 have Rn:R≠0:=by grind
 have h:=(rl_of_near far (by decide +kernel) d).mono (δ:=_) (γ:=1/70000) (div_le (by decide +kernel) (Rat.le_trans two_small (by decide +kernel))); have back:∀ E:Cp,Cp.of R*(Cp.of R⁻¹*E)=E:=fun E=>by
  rw[← Cp.mul_assoc,← Cp.of_mul_of,Rat.mul_inv_cancel _ Rn]
  exact Cp.one_mul E
 have h2:=(Rl.refl (Cp.of R) (δ:=0) Rat.le_refl).mul h
 rw[back,back]at h2
 refine⟨h2.mono (by grind),fun e=>?_⟩
 have:=ng_ne far (by decide +kernel)
 apply this
 rw[Cp.nsq_mul,e,Rat.mul_zero]
theorem other_len {VK VM XK XM:Cp} {Y l:Rat} (hK:Rl VK XK (100*eps)) (hM:Rl VM XM (100*eps)) (h:Rl XK XM Y) (Y0:0≤Y) (Y1:Y≤1/3000) (hl:Nm VM l):Nm VK (1001/1000*l):=by
 have ep:=eps_pos; have et:=eps_tiny; have x:=rl_use hM (by grind) (by grind) hl; have y:=rl_len h x; have v:=rl_len hK y; refine v.mono ?_; have l0:=hl.1; have k2:(1+100*eps)*((1+Y)*(1+101/100*(100*eps)))≤1001/1000:=by
  have a:=mul_mono' (show 1+Y≤3001/3000 by grind) (show 1+101/100*(100*eps)≤1000001/1000000 by grind) (by grind) (by decide +kernel); have b:=mul_mono' (show 1+100*eps≤1000001/1000000 by grind) a (Rat.mul_nonneg (by grind) (by grind)) (by decide +kernel); exact Rat.le_trans b (by decide +kernel)
 have:=Rat.mul_le_mul_of_nonneg_right k2 l0
 grind
theorem pow_Y {m:Nat} (hm:m≤9):0≤(m:Rat)*(2*(1/70000))*(1+(m:Rat)*(2*(1/70000)))∧(m:Rat)*(2*(1/70000))*(1+(m:Rat)*(2*(1/70000)))≤1/3000:=by
 have mm:(m:Rat)≤9:=by exact_mod_cast hm
 have m0:(0:Rat)≤(m:Rat):=by exact_mod_cast Nat.zero_le m
 refine⟨Rat.mul_nonneg (Rat.mul_nonneg m0 (by decide +kernel)) (by grind),?_⟩
 have:=mul_mono' (show (m:Rat)*(2*(1/70000))≤9/35000 by grind) (show 1+(m:Rat)*(2*(1/70000))≤11/10 by grind) (by grind) (by decide +kernel)
 exact Rat.le_trans this (by decide +kernel)
theorem other_pole {VK VM C EK EM:Cp} {R l:Rat} {m:Nat} (hm:m≤9) (R1:1≤R) (hK:Rl VK (C*EK.inv.pw m) (100*eps)) (hM:Rl VM (C*EM.inv.pw m) (100*eps)) (d:Nm (Cp.of R⁻¹*EK-Cp.of R⁻¹*EM) (2300*eps)) (far:Ng (Cp.of R⁻¹*EM) (29/100000000)) (hl:Nm VM l):Nm VK (1001/1000*l):=by
 obtain⟨h1,h2⟩:=close_E R1 d far
 obtain⟨h3,_⟩:=h1.inv (by decide +kernel) h2
 have mm:(m:Rat)≤9:=by exact_mod_cast hm
 have h4:=rl_pw h3 (by decide +kernel) m (by grind); have h5:=(Rl.refl C (δ:=0) Rat.le_refl).mul h4
 obtain⟨y0,y1⟩:=pow_Y hm
 exact other_len hK hM (h5.mono (by grind)) y0 y1 hl
theorem other_corner {VK VM C EK EM:Cp} {R l:Rat} {m:Nat} (hm:m≤9) (R1:1≤R) (hK:Rl VK (C*EK.pw m) (100*eps)) (hM:Rl VM (C*EM.pw m) (100*eps)) (d:Nm (Cp.of R⁻¹*EK-Cp.of R⁻¹*EM) (2300*eps)) (far:Ng (Cp.of R⁻¹*EM) (29/100000000)) (hl:Nm VM l):Nm VK (1001/1000*l):=by
 obtain⟨h1,h2⟩:=close_E R1 d far
 have h3:=h1.mono (show (1:Rat)/70000≤2*(1/70000) by decide +kernel); have mm:(m:Rat)≤9:=by exact_mod_cast hm
 have h4:=rl_pw h3 (by decide +kernel) m (by grind); have h5:=(Rl.refl C (δ:=0) Rat.le_refl).mul h4
 obtain⟨y0,y1⟩:=pow_Y hm
 exact other_len hK hM (h5.mono (by grind)) y0 y1 hl
theorem ng_back {E b:Cp} {R g d:Rat} (R1:1≤R) (hb:Ng b g) (h:Nm (Cp.of R⁻¹*E-b) d) (hd:d≤g) (hm:mD≤g-d):Ng (Cp.of R⁻¹*E) (g-d)∧Ng E mD:=by
 have Rn:R≠0:=by grind
 have a:=ng_sub hb h hd; have e:b+(Cp.of R⁻¹*E-b)=Cp.of R⁻¹*E:=Cp.ext' (by simp only[Cp.add_re,Cp.sub_re];grind) (by simp only[Cp.add_im,Cp.sub_im];grind)
 rw[e]at a
 refine⟨a,?_⟩
 have r:Ng (Cp.of R) R:=⟨by grind,by unfold Cp.nsq;simp only[Cp.of_re,Cp.of_im];grind⟩; have m:=r.mul a; have back:Cp.of R*(Cp.of R⁻¹*E)=E:=by
  rw[← Cp.mul_assoc,← Cp.of_mul_of,Rat.mul_inv_cancel _ Rn]
  exact Cp.one_mul E
 rw[back]at m
 have p:=mD_pos; refine m.mono (Rat.le_of_lt p) ?_
 have:=mul_mono' R1 hm (Rat.le_of_lt p) (by grind)
 grind
section
variable {c1 c2 a1 a2 s1 s2 p:Nat} {cx cy X Y S T:Int} {R:Rat} {d z:Nat×Nat} {D Z:Cp} (hP:Plc c1 c2 cx cy R d z D Z) (bc1:cx.natAbs≤1000) (bc2:cy.natAbs≤1000) (R1:1≤R) (R2:R≤2000)
include hP bc1 bc2 R1 R2
theorem seen_el {kind:Int} (h:ElD kind a1 a2 s1 s2 p X Y S T) (far:Ng (Cp.of R⁻¹*D-Cp.of R⁻¹*gz (X-cx) (Y-cy)) (3/10000000)):
  ∃ e1 e2 E,Seen a1 a2 z.1 z.2 e1 e2 E Z∧Nm E rD∧Ng E mD∧Ng (Cp.of R⁻¹*E) (29/100000000)∧Nm (Cp.of R⁻¹*E-(Cp.of R⁻¹*D-Cp.of R⁻¹*gz (X-cx) (Y-cy))) (1127*eps):=by
 obtain⟨e1,e2,E,h1,h2,h3⟩:=seen_from h.ha h.bX h.bY bc1 bc2 R1 R2 hP.nD hP.iZ hP.nZ hP.r1 hP.r2
 have sm:1127*eps≤1/100000000:=by rw[eps_eq];decide +kernel
 have md:mD≤3/10000000-1127*eps:=by
  have:mD≤29/100000000:=by unfold mD;decide +kernel
  grind
 obtain⟨g1,g2⟩:=ng_back R1 far h3 (Rat.le_trans sm (by decide +kernel)) md
 exact⟨e1,e2,E,h1,h2.mono (by unfold rD;decide +kernel),g2,g1.mono (by decide +kernel) (by grind),h3⟩
theorem at_doublet {m:Nat} (m1:1≤m) (m8:m≤8) (h:ElD 3 a1 a2 s1 s2 (wrd m) X Y S T) (far:Ng (Cp.of R⁻¹*D-Cp.of R⁻¹*gz (X-cx) (Y-cy)) (3/10000000)):
  ∃(v:Nat×Nat) (V E:Cp),IsZ v.1 v.2 V∧(∀(T':Type) (k:Nat→Nat→Int→Option T'),spdK T' 3 a1 a2 s1 s2 (wrd m) z.1 z.2 k=k v.1 v.2 0)∧Nm E rD∧Ng (Cp.of R⁻¹*E) (29/100000000)∧
   Nm (Cp.of R⁻¹*E-(Cp.of R⁻¹*D-Cp.of R⁻¹*gz (X-cx) (Y-cy))) (1127*eps)∧Rl V (gz (S*-(m:Int)) (T*-(m:Int))*E.inv.pw (m+1)) (100*eps):=by
 obtain⟨e1,e2,E,q1,q2,q3,q4,q5⟩:=seen_el hP bc1 bc2 R1 R2 h far
 obtain⟨x,y,V,iV,rV,hV⟩:=spd_doublet m1 m8 h q1 q3 q2
 exact⟨(x,y),V,E,iV,hV,q2,q4,q5,rV⟩
theorem at_corner {m:Nat} (m1:1≤m) (m4:m≤4) (h:ElD 4 a1 a2 s1 s2 (wrd m) X Y S T) (far:Ng (Cp.of R⁻¹*D-Cp.of R⁻¹*gz (X-cx) (Y-cy)) (3/10000000)):
  ∃(v:Nat×Nat) (V E:Cp),IsZ v.1 v.2 V∧(∀(T':Type) (k:Nat→Nat→Int→Option T'),spdK T' 4 a1 a2 s1 s2 (wrd m) z.1 z.2 k=k v.1 v.2 0)∧Nm E rD∧Ng (Cp.of R⁻¹*E) (29/100000000)∧
   Nm (Cp.of R⁻¹*E-(Cp.of R⁻¹*D-Cp.of R⁻¹*gz (X-cx) (Y-cy))) (1127*eps)∧Rl V (gz (S*(m:Int)) (T*(m:Int))*E.pw (m-1)) (100*eps):=by
 obtain⟨e1,e2,E,q1,q2,q3,q4,q5⟩:=seen_el hP bc1 bc2 R1 R2 h far
 obtain⟨x,y,V,iV,rV,hV⟩:=spd_corner m1 m4 h q1 q3 q2
 exact⟨(x,y),V,E,iV,hV,q2,q4,q5,rV⟩
theorem at_source {k1 k2:Nat} {C:Cp} (hc:∀(R:Type) (k:Nat→Nat→Option R),sclK R s1 s2 4594902181429758083 k=k k1 k2) (iC:IsZ k1 k2 C) (hC:C≠Cp.zero→Ng C (1/10)) (nC:Nm C 20000) (h:ElD 2 a1 a2 s1 s2 p X Y S T) (far:Ng (Cp.of R⁻¹*D-Cp.of R⁻¹*gz (X-cx) (Y-cy)) (3/10000000)):
  ∃(v:Nat×Nat) (V E:Cp),IsZ v.1 v.2 V∧(∀(T':Type) (k:Nat→Nat→Int→Option T'),spdK T' 2 a1 a2 s1 s2 p z.1 z.2 k=k v.1 v.2 0)∧Nm E rD∧Ng (Cp.of R⁻¹*E) (29/100000000)∧
   Nm (Cp.of R⁻¹*E-(Cp.of R⁻¹*D-Cp.of R⁻¹*gz (X-cx) (Y-cy))) (1127*eps)∧Rl V (C*E.inv.pw 1) (100*eps):=by
 obtain⟨e1,e2,E,q1,q2,q3,q4,q5⟩:=seen_el hP bc1 bc2 R1 R2 h far
 obtain⟨x,y,V,iV,rV,hV⟩:=source_core h q1 q3 q2 hc iC hC nC
 exact⟨(x,y),V,E,iV,hV,q2,q4,q5,rV⟩
theorem at_stream (h:ElD 1 a1 a2 s1 s2 p X Y S T) (T':Type) (k:Nat→Nat→Int→Option T'):spdK T' 1 a1 a2 s1 s2 p z.1 z.2 k=k s1 s2 0:=by
 obtain⟨e1,e2,E,h1,_,_⟩:=seen_from h.ha h.bX h.bY bc1 bc2 R1 R2 hP.nD hP.iZ hP.nZ hP.r1 hP.r2
 exact spd_stream h h1 T' k
end
theorem source_const {s1 s2:Nat} {S T:Int} (hs:IsC s1 s2 S T) (b1:S.natAbs≤1000) (b2:T.natAbs≤1000) {F:Rat} (hF:Is 4594902181429758083 F) (F1:159/1000≤F) (F2:F≤160/1000):
  ∃ k1 k2 C,(∀(R:Type) (k:Nat→Nat→Option R),sclK R s1 s2 4594902181429758083 k=k k1 k2)∧IsZ k1 k2 C∧(C≠Cp.zero→Ng C (1/10))∧Nm C 20000∧Rl C (Cp.of F*gz S T) eps:=by
 have ep:=eps_pos; have et:=eps_tiny; have nA:=gz_size b1 b2; have o3:((1000:Nat):Rat)=1000:=rfl
 rw[o3]at nA
 have aF:F.abs=F:=Rat.abs_of_nonneg (by grind); have of1:Ng (Cp.of F) (159/1000):=⟨by decide +kernel,by
  unfold Cp.nsq; simp only[Cp.of_re,Cp.of_im]
  have:=mul_mono' F1 F1 (by decide +kernel) (by grind)
  grind⟩
 have h0:gz S T=Cp.zero∨(Ng (Cp.of F*gz S T) (159/1000)∧4*tn≤1/1000*eps*(159/1000)):=by
  by_cases hz:gz S T=Cp.zero
  ·exact .inl hz
  ·right
   have:=of1.mul (gz_zero hz)
   rw[Rat.mul_one]at this
   refine⟨this,?_⟩
   have e:=tn_eps (q:=3) (by decide); have p3:(2:Rat)^(-((3:Nat):Int))≤159/1000:=by
    have h:=p2_cancel 3
    rw[show (2:Rat)^(3:Int)=8 by rw[show (3:Int)=((3:Nat):Int) by rfl,p2_nat];rfl]at h
    show (2:Rat)^(-3:Int)≤_; grind
   have:=Rat.mul_le_mul_of_nonneg_left p3 (show 0≤1/1000*eps by grind)
   have:=tn_pos
   grind
 obtain⟨k1,k2,C,iC,rC,hC⟩:=sclK_rel (isC_z hs) hF nA (by
  rw[aF,big200_eq]
  have:=Rat.mul_le_mul_of_nonneg_left F2 (show (0:Rat)≤3/2*1000 by decide +kernel)
  grind) h0
 refine⟨k1,k2,C,hC,iC,fun hne=>?_,?_,rC⟩
 ·rcases h0 with h|⟨h,_⟩
  ·exact absurd (rC.zero (by rw[h,Cp.mul_zero])) hne
  ·obtain⟨e,e1,e2⟩:=rC
   rw[e2]
   refine(h.mul (ng_one e1 (by grind))).mono (by decide +kernel) ?_
   have:=Rat.mul_le_mul_of_nonneg_left (show 999/1000≤1-eps by grind) (show (0:Rat)≤159/1000 by decide +kernel)
   grind
 ·have nF:Nm (Cp.of F) (160/1000):=nm_of (by rw[aF];exact F2)
  have:=rC.nm (nF.mul nA) (by grind)
  exact this.mono (by decide +kernel)
def Fit2 (r:Rat):Prop:=r=0∨(2:Rat)^(-180:Int)≤r
theorem len_of {a b:Nat} {V:Cp} (iV:IsZ a b V) {B:Rat} (nV:Nm V B) (B1:1≤B) (B2:B≤(2:Rat)^(400:Int)) (low:V=Cp.zero∨Ng V ((2:Rat)^(-150:Int))):
  ∃ w L,Is w L∧0≤L∧L≤2*B∧Nm V (1015/1000*L)∧Fit2 L∧∀(R:Type) (k:Nat→Option R),lengthK R a b k=k w:=by
 have p3:=p2_pos (-150); have lo:(V.re=0∧V.im=0)∨(2:Rat)^(-800:Int)≤V.re.abs∨(2:Rat)^(-800:Int)≤V.im.abs:=by
  rcases low with h|h
  ·left;rw[h];exact⟨rfl,rfl⟩
  ·right
   obtain⟨W,_,_,w3,w4,_⟩:=great_part h nV
   have e:=p2_half (-150)
   rw[show (-150-1:Int)=-151 by decide]at e
   have q:=p2_le (show (-800:Int)≤-151 by decide); rcases w3 with h|h
   ·left;rw[← h];grind
   ·right;rw[← h];grind
 obtain⟨w,L,iL,L0,L2,q1,q2,hL⟩:=lengthK_most iV.1 iV.2 nV.re nV.im (Rat.le_trans (Rat.le_trans (p2_le (show (-900:Int)≤0 by decide)) (by rw[Rat.zpow_zero];exact Rat.le_refl)) B1) B2 lo
 refine⟨w,L,iL,L0,L2,⟨Rat.mul_nonneg (by decide +kernel) L0,?_⟩,?_,hL⟩
 ·show V.re*V.re+V.im*V.im≤_
  have:=Rat.mul_nonneg L0 L0
  grind
 ·rcases low with h|h
  ·left
   rw[h]at q2
   have:L*L≤0:=by
    have z1:Cp.zero.re=0:=rfl; have z2:Cp.zero.im=0:=rfl
    rw[z1,z2]at q2
    grind
   refine Rat.le_antisymm (Rat.not_lt.1 fun hl=>?_) L0
   have:=Rat.mul_pos hl hl
   grind
  ·right; have h2:=h.2; have e:V.nsq=V.re*V.re+V.im*V.im:=rfl
   rw[e]at h2
   refine Rat.not_lt.1 fun hl=>?_
   have k1:=mul_mono' (Rat.le_of_lt hl) (Rat.le_of_lt hl) L0 (Rat.le_of_lt (p2_pos (-180))); have k2:(2:Rat)^(-180:Int)*(2:Rat)^(-180:Int)*4≤(2:Rat)^(-150:Int)*(2:Rat)^(-150:Int):=by
    rw[← p2_add,← p2_add]
    have a:=p2_half (-358); have b:=p2_half (-359)
    rw[show (-358-1:Int)=-359 by decide]at a
    rw[show (-359-1:Int)=-360 by decide]at b
    rw[show (-180+-180:Int)=-360 by decide,show (-150+-150:Int)=-300 by decide]
    have c:=p2_le (show (-358:Int)≤-300 by decide); grind
   have p6:=Rat.mul_pos p3 p3; grind
theorem p2_n150:(2:Rat)^(-150:Int)≤1/10*(1/8192)^9/2:=by
 have h:=p2_le (show (-150:Int)≤-122 by decide); have e:=p2_cancel 122
 rw[show (2:Rat)^(122:Int)=5316911983139663491615228241121378304 by rw[show (122:Int)=((122:Nat):Int) by rfl,p2_nat];rfl]at e
 have e2:(2:Rat)^(-122:Int)=1/5316911983139663491615228241121378304:=by grind
 rw[e2]at h
 refine Rat.le_trans h ?_
 decide +kernel
theorem pole_low {V C E:Cp} {m:Nat} (hm:m≤9) (hC:C=Cp.zero∨Ng C (1/10)) (nE:Nm E rD) (gE:Ng E mD) (hV:Rl V (C*E.inv.pw m) (100*eps)):V=Cp.zero∨Ng V ((2:Rat)^(-150:Int)):=by
 have et:=eps_tiny; rcases hC with h|h
 ·exact .inl (hV.zero (by rw[h,Cp.zero_mul]))
 ·right
  obtain⟨_,i2⟩:=inv_sizes gE mD_pos nE (by unfold rD;decide +kernel)
  have i3:Ng E.inv (1/8192):=i2.mono (by decide +kernel) (by unfold rD;decide +kernel); have g:=h.mul (ng_pw i3 m); have g2:=hV.ng g (by grind); refine g2.mono (Rat.le_of_lt (p2_pos _)) (Rat.le_trans p2_n150 ?_); have p:((1:Rat)/8192)^9≤(1/8192)^m:=by
   have:∀ j:Nat,((1:Rat)/8192)^(m+j)≤(1/8192)^m:=fun j=>by
    induction j with
    |zero=>exact Rat.le_refl
    |succ j ih=>
     rw[← Nat.add_assoc,Rat.pow_succ]
     have p0:(0:Rat)≤(1/8192)^(m+j):=Rat.pow_nonneg (by decide +kernel)
     have:=Rat.mul_le_mul_of_nonneg_left (show (1:Rat)/8192≤1 by decide +kernel) p0
     grind
   have:=this (9-m)
   rwa [show m+(9-m)=9 by omega]at this
  have:=Rat.mul_le_mul_of_nonneg_left p (show (0:Rat)≤1/10 by decide +kernel)
  grind
theorem pole_high {V C E:Cp} {m:Nat} (hm:m≤9) (nC:Nm C 20000) (gE:Ng E (4/10)) (hV:Rl V (C*E.inv.pw m) (100*eps)):Nm V 200000000:=by
 have et:=eps_tiny
 obtain⟨i1,_⟩:=inv_sizes gE (by decide +kernel) (r:=E.nsq+1) ⟨by have:=E.nsq_nonneg;grind,by have:=E.nsq_nonneg;have:=Rat.mul_nonneg this this;grind⟩ (by have:=E.nsq_nonneg;grind)
 have i2:Nm E.inv (5/2):=i1.mono (by decide +kernel); have a:=hV.nm (nC.mul (nm_pw i2 m)) (by grind); refine a.mono ?_; have p:((5:Rat)/2)^m≤(5/2)^9:=pow_le_pow (by decide +kernel) hm
 have:=Rat.mul_le_mul_of_nonneg_left p (show (0:Rat)≤20000 by decide)
 refine Rat.le_trans (Rat.mul_le_mul_of_nonneg_left this (by decide)) (by decide +kernel)
theorem corner_low {V C E:Cp} {m:Nat} (hm:m≤3) (hC:C=Cp.zero∨Ng C (1/10)) (gE:Ng E (1/8192/8192)) (hV:Rl V (C*E.pw m) (100*eps)):V=Cp.zero∨Ng V ((2:Rat)^(-150:Int)):=by
 have et:=eps_tiny; rcases hC with h|h
 ·exact .inl (hV.zero (by rw[h,Cp.zero_mul]))
 ·right; have g:=h.mul (ng_pw gE m); have g2:=hV.ng g (by grind); refine g2.mono (Rat.le_of_lt (p2_pos _)) (Rat.le_trans p2_n150 ?_)
  match m,hm with
  |0,_=>rw[Rat.pow_zero];decide +kernel
  |1,_=>decide +kernel
  |2,_=>decide +kernel
  |3,_=>decide +kernel
theorem corner_high {V C E:Cp} {m:Nat} (hm:m≤3) (nC:Nm C 20000) (nE:Nm E rD) (hV:Rl V (C*E.pw m) (100*eps)):Nm V 100000000000000000:=by
 have et:=eps_tiny; have a:=hV.nm (nC.mul (nm_pw nE m)) (by grind); refine a.mono ?_; have p:rD^m≤rD^3:=pow_le_pow rD_one hm
 have:=Rat.mul_le_mul_of_nonneg_left p (show (0:Rat)≤20000 by decide)
 refine Rat.le_trans (Rat.mul_le_mul_of_nonneg_left this (by decide)) (by unfold rD;decide +kernel)
theorem lst_at {q:Nat→Nat×Nat} {n k:Nat} {z:Nat×Nat} (h:(lst q n)[k]?=some z):k<n∧z=q k:=by
 unfold lst at h
 rw[List.getElem?_map]at h
 cases hr:(List.range n)[k]? with
 |none=>rw[hr]at h;cases h
 |some j=>
  rw[hr]at h
  obtain⟨hlt,hq⟩:=List.getElem?_eq_some_iff.1 hr
  rw[List.getElem_range]at hq
  rw[List.length_range]at hlt
  subst hq
  exact⟨hlt,(Option.some.inj h).symm⟩
theorem sumT_of {q g:Nat→Nat×Nat} {n:Nat} (h0:g 0=(0,0)) (h1:0<n→g 1=q 0) (h2:∀ k,0<k→k<n→Adds (g k) (q k) (g (k+1))):SumT (lst q n) g where
 zero:=h0
 one:=fun z hz=>by
  obtain⟨a,b⟩:=lst_at hz
  rw[b];exact h1 a
 step:=fun k z hk hz=>by
  obtain⟨a,b⟩:=lst_at hz
  subst b; exact h2 k hk a
theorem foldK_of {g q:Nat→Nat×Nat} {n:Nat} (h2:∀ k,0<k→k<n→Adds (g k) (q k) (g (k+1))):∀(j k:Nat),0<k→k+j=n→∀(R:Type) (K:Nat→Nat→Option R),foldK addK (g k).1 (g k).2 ((List.range' k j).map q) K=K (g n).1 (g n).2
 |0,k,_,e,R,K=>by
  have:k=n:=by omega
  subst this; rfl
 |j+1,k,hk,e,R,K=>by
  show addK R (g k).1 (g k).2 (q k).1 (q k).2 (fun x y=>foldK addK x y ((List.range' (k+1) j).map q) K)=_
  rw[h2 k hk (by omega)]
  exact foldK_of h2 j (k+1) (by omega) (by omega) R K
theorem spdR_of {xs:List El} {z1 z2:Nat} {v:Nat→Nat×Nat} (hv:∀ i,i<xs.length→∀(R:Type) (k:Nat→Nat→Int→Option R),spdK R (nthE xs i).kind (nthE xs i).a1 (nthE xs i).a2 (nthE xs i).s1 (nthE xs i).s2 (nthE xs i).p z1 z2 k=k (v i).1 (v i).2 0) (R:Type) (k:Nat→Nat→Int→Option R):
  ∀(m i:Nat) (l:List (Nat×Nat)),i+m=xs.length→spdR spdK addK FiniteK (nthE xs) z1 z2 k m i l=sumKK addK (l.reverse++(List.range' i m).map v) fun x y=>FiniteK R x y fun t=>bif t then k x y 0 else k 0 0 6
 |0,i,l,h=>by
  show sumKK addK l.reverse _=sumKK addK (l.reverse++[]) _
  rw[List.append_nil]
 |m+1,i,l,h=>by
  show spdK R (nthE xs i).kind (nthE xs i).a1 (nthE xs i).a2 (nthE xs i).s1 (nthE xs i).s2 (nthE xs i).p z1 z2 (fun a b e=>bif e != 0 then k 0 0 e else spdR spdK addK FiniteK (nthE xs) z1 z2 k m (i+1) ((a,b)::l))=_
  rw[hv i (by omega)]
  show spdR spdK addK FiniteK (nthE xs) z1 z2 k m (i+1) (((v i).1,(v i).2)::l)=_
  rw[spdR_of hv R k m (i+1) _ (by omega)]
  congr 1
  show (v i::l).reverse++_=_
  rw[List.reverse_cons,List.append_assoc]
  rfl
theorem spdT_of {xs:List El} {z1 z2:Nat} {v g:Nat→Nat×Nat} (h0:0<xs.length) (hv:∀ i,i<xs.length→∀(R:Type) (k:Nat→Nat→Int→Option R),spdK R (nthE xs i).kind (nthE xs i).a1 (nthE xs i).a2 (nthE xs i).s1 (nthE xs i).s2 (nthE xs i).p z1 z2 k=k (v i).1 (v i).2 0)
  (h1:g 1=v 0) (h2:∀ k,0<k→k<xs.length→Adds (g k) (v k) (g (k+1))) {S:Cp} (iS:IsZ (g xs.length).1 (g xs.length).2 S):SpdT xs z1 z2 (g xs.length).1 (g xs.length).2:=fun R k=>by
 rw[spdR_of hv R k xs.length 0 [] (by omega)]
 obtain⟨m,hm⟩:∃ m,xs.length=m+1:=⟨xs.length-1,by omega⟩
 have e:([]:List (Nat×Nat)).reverse++(List.range' 0 xs.length).map v=v 0::(List.range' 1 m).map v:=by rw[hm];rfl
 rw[e]
 show foldK addK (v 0).1 (v 0).2 ((List.range' 1 m).map v) _=_
 rw[← h1,foldK_of (n:=xs.length) h2 m 1 (by omega) (by omega),FiniteK_yes iS.1 iS.2,cond_true]
theorem meS_of {xs:List El} {c1 c2 d1 d2 z1 z2:Nat} {v:Nat→Nat×Nat} {w g:Nat→Nat} (hA:∀(T:Type) (K:Nat→Nat→Option T),addK T c1 c2 d1 d2 K=K z1 z2)
  (hv:∀ i,i<xs.length→∀(R:Type) (k:Nat→Nat→Int→Option R),spdK R (nthE xs i).kind (nthE xs i).a1 (nthE xs i).a2 (nthE xs i).s1 (nthE xs i).s2 (nthE xs i).p z1 z2 k=k (v i).1 (v i).2 0)
  (hl:∀ i,i<xs.length→∀(R:Type) (k:Nat→Option R),lengthK R (v i).1 (v i).2 k=k (w i)) (hs:∀ i,i<xs.length→fbF .add (g i) (w i)=some (g (i+1))) (R:Type) (er:Option R) (K:Nat→Option R):
  ∀(m i:Nat),i+m=xs.length→meS addK spdK lengthK (nthE xs) c1 c2 d1 d2 er K m i (g i)=K (g xs.length)
 |0,i,h=>by
  have:i=xs.length:=by omega
  subst this; rfl
 |m+1,i,h=>by
  show addK R c1 c2 d1 d2 (fun z1 z2=>spdK R (nthE xs i).kind (nthE xs i).a1 (nthE xs i).a2 (nthE xs i).s1 (nthE xs i).s2 (nthE xs i).p z1 z2 fun x y e=>bif e != 0 then er else lengthK R x y fun l=>bindF (fbF .add (g i) l) fun s=>meS addK spdK lengthK (nthE xs) c1 c2 d1 d2 er K m (i+1) s)=_
  rw[hA,hv i (by omega)]
  show lengthK R (v i).1 (v i).2 (fun l=>bindF (fbF .add (g i) l) fun s=>meS addK spdK lengthK (nthE xs) c1 c2 d1 d2 er K m (i+1) s)=_
  rw[hl i (by omega),bindF_eq (hs i (by omega))]
  exact meS_of hA hv hl hs R er K m (i+1) (by omega)
theorem z_one {z w:Cp} (hz:Nm z rhoP) (hw:Nm w rhoP) (e:z*w=Cp.one):(z.nsq-1).abs≤1/1000000000:=by
 have e2:z.nsq*w.nsq=1:=by
  rw[← Cp.nsq_mul,e]
  unfold Cp.nsq; simp only[Cp.one_re,Cp.one_im]; grind
 have r2:rhoP*rhoP≤1+1/10000000000:=by
  have a:=rho_in; have c:=rho_one
  have:=mul_mono' a a (Rat.le_trans (by decide) c) (by decide +kernel)
  refine Rat.le_trans this ?_
  decide +kernel
 have a:=Rat.le_trans hz.2 r2; have b:=Rat.le_trans hw.2 r2; have z0:=z.nsq_nonneg; have w0:=w.nsq_nonneg; refine abs_le_iff.2 ⟨?_,by grind⟩
 have:=Rat.mul_le_mul_of_nonneg_left b z0
 rw[e2]at this
 grind
section
variable {cx cy r:Int} {hs:List Th} {n:Int} {S:Sight (fI cx) (fI cy) (fI r)}
theorem sides (g:Vm.Good S hs n) {h:Th} (hm:h∈hs) (hk:h.kind=2∨h.kind=3):(leF (S.lw h.el) (halfW (fI r))=true∧Nm (gmm cx cy r h) (5075/10000))∨(leF (S.lw h.el) (halfW (fI r))=false∧Ng (gmm cx cy r h) (197058/100000)):=by
 have w:=g.well h hm; unfold wellV at w; have k1:(h.el.kind == 1)=false:=by show (h.kind == 1)=false;rcases hk with e|e<;>rw[e]<;>rfl
 have k4:(h.el.kind == 4)=false:=by show (h.kind == 4)=false;rcases hk with e|e<;>rw[e]<;>rfl
 rw[k1,k4,Bool.false_or,Bool.false_or]at w
 cases e:leF (S.lw h.el) (halfW (fI r)) with
 |true=>exact .inl ⟨rfl,inside_nm g hm e⟩
 |false=>
  rw[e,Bool.false_or]at w
  exact .inr ⟨rfl,outside_ng g hm w⟩
theorem far_el (g:Vm.Good S hs n) {h:Th} (hm:h∈hs) (hk:h.kind≠1) {z w:Cp} (hz:Nm z rhoP) (hw:Nm w rhoP) (e:z*w=Cp.one):Ng (z-gmm cx cy r h) (3/10000000):=by
 have one:=z_one hz hw e; have zlow:Ng z (999/1000):=by
  refine⟨by decide +kernel,?_⟩
  have:=abs_le_iff.1 one
  grind
 have zhigh:Nm z (101/100):=hz.mono (by have:=rho_in;grind); have pole:(h.kind=2∨h.kind=3)→Ng (z-gmm cx cy r h) (3/10000000):=fun hk=>by
  rcases sides g hm hk with ⟨_,a⟩|⟨_,a⟩
  ·have:=ng_sub zlow a.neg (by decide +kernel)
   rw[← Cp.sub_eq]at this
   exact this.mono (by decide +kernel) (by decide +kernel)
  ·have:=ng_sub (ng_neg a) zhigh (by decide +kernel)
   rw[show -gmm cx cy r h+z=z-gmm cx cy r h by rw[Cp.sub_eq,Cp.add_comm]]at this
   exact this.mono (by decide +kernel) (by decide +kernel)
 rcases kinds g hm with k|k|⟨k,_⟩|⟨k,_⟩
 ·exact absurd k hk
 ·exact pole (.inl k)
 ·exact pole (.inr k)
 ·exact off_far one (corner_nsq g hm k)
end
end Go.Vx
