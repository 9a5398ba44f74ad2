/- A part of the evaluator and of what is told of floats; no conditions. -/
import Derived.Test.YtaogignikkjkjaaGreatVmYG
set_option linter.unusedSectionVars false
set_option linter.unusedSimpArgs false
set_option linter.unusedVariables false
set_option maxRecDepth 1000000
namespace Go.Vx
open Go.Vm Go.Proofs Ieee
theorem int_term {R:Rat} {γ:Cp} {h:Th} {b:Bool} {c:Nat×Nat} {C κ:Cp} {s:Sd} (hR:R≠0) (D:Dsc R γ h b c C s κ):(bif (h.kind == 2 && b) then C else Cp.zero)=Cp.of R*(κ*s.intG):=by
 have z:∀ X:Cp,Cp.zero=Cp.of R*(X*Cp.zero):=fun X=>by rw[Cp.mul_zero,Cp.mul_zero]
 cases D with
 |stream k=>rw[Bool.and_false];exact z _
 |srcI c C k hc iC lC nC hγ=>
  rw[k]
  show C=Cp.of R*(C*(Cp.one*Cp.of R⁻¹)*Cp.one)
  rw[Cp.mul_one,Cp.one_mul,Cp.mul_comm C,of_back hR]
 |srcO c C k hc iC lC nC hγ=>rw[Bool.and_false];exact z _
 |dblI m k m1 m8 hp hγ=>
  rw[k]
  show Cp.zero=Cp.of R*(_*Fv γ [] (m+1))
  rw[Fv_nil,if_neg (by omega)]
  exact z _
 |dblO m k m1 m8 hp hγ=>rw[Bool.and_false];exact z _
 |cor m k m1 m4 hp=>rw[Bool.and_false];exact z _
theorem intG_one (s:Sd):Nm s.intG 1:=by
 cases s with
 |inn b qb q=>
  show Nm (Fv b [] q) 1; cases q with
  |zero=>exact nm_zero.mono (by decide)
  |succ q=>
   rw[Fv_nil]
   by_cases h:q=0
   ·rw[if_pos h];exact nm_one
   ·rw[if_neg h];exact nm_zero.mono (by decide)
 |out L=>exact nm_zero.mono (by decide)
theorem src_word {R:Rat} {γ:Cp} {h:Th} {b:Bool} {c:Nat×Nat} {C κ:Cp} {s:Sd} (D:Dsc R γ h b c C s κ) (k:h.kind=2):(∀(T:Type) (K:Nat→Nat→Option T),sclK T (fI h.s) (fI h.t) 4594902181429758083 K=K c.1 c.2)∧IsZ c.1 c.2 C:=by
 cases D with
 |stream k'=>rw[k]at k';cases k'
 |srcI c C k hc iC lC nC hγ=>exact⟨hc,iC⟩
 |srcO c C k hc iC lC nC hγ=>exact⟨hc,iC⟩
 |dblI m k' m1 m8 hp hγ=>rw[k]at k';cases k'
 |dblO m k' m1 m8 hp hγ=>rw[k]at k';cases k'
 |cor m k' m1 m4 hp=>rw[k]at k';cases k'
section
variable {cx cy r:Int} {S:Sight (fI cx) (fI cy) (fI r)} {hs:List Th} {n:Nat} {dK zK dM zM:Nat→Nat×Nat} {DK ZK DM ZM z w zm wm:Nat→Cp} {c:Th→Nat×Nat} {C:Th→Cp} {s:Th→Sd} {κ:Th→Cp} {v vM:Th→Nat→Nat×Nat} {V:Th→Nat→Cp} {wM:Th→Nat→Nat} {L:Th→Nat→Rat}
 (T:Dat S hs n dK zK dM zM DK ZK DM ZM z w zm wm c C s κ v vM V wM L)
include T
theorem kap_600 {h:Th} (hm:h∈hs):Nm (κ h) (600*mT L n h):=by
 obtain⟨W1,m0,b,_⟩:=size_h T hm
 exact b.mono (div_le (by grind) (by
  have:=Rat.mul_le_mul_of_nonneg_left W1 (show 0≤600*mT L n h by grind)
  grind))
theorem clean_els (b:Bool):FlatCall Tryz.prog 38 [flowV 0 (els hs).length (els hs).length,ciV (fI cx) (fI cy) (fI r),.bool b] ⟨1,[(0,.cells (cellsOf (els hs)) 4)]⟩ (.int .i64 0):=by
 rw[els_length]
 exact T.good.clean b
theorem fit_RM {x c:Rat} (c1:1≤c) (x0:0≤x) (h:x=0∨(2:Rat)^(-200:Int)≤x):Fit (c*x):=by
 refine ft_times c1 x0 ?_
 rcases h with h|h
 ·exact .inl h
 ·exact .inr (Rat.le_trans (p2_le (by decide)) h)
theorem residues_of:∃ z1 z2 Z,FlatCall Tryz.prog 10 [flowV 0 (els hs).length (els hs).length,ciV (fI cx) (fI cy) (fI r)] ⟨1,[(0,.cells (cellsOf (els hs)) 4)]⟩ (reV z1 z2 0)∧IsZ z1 z2 Z∧
  Nm (Z-Cp.of (r:Rat)*G1 hs s κ) ((r:Rat)*MH hs L n*(3600*eps))∧Nm (G1 hs s κ) (600*MH hs L n):=by
 have ep:=eps_pos
 obtain⟨R1,R2⟩:=Rq T
 have Rn:(r:Rat)≠0:=by grind
 have M0:=M_facts T; have el:=els_length hs; have l6:=T.good.len6; have hmem:∀ h∈hs.filter (insS S),h∈hs∧h.kind=2∧insS S h=true:=fun h hm=>by
  obtain⟨a,b⟩:=List.mem_filter.1 hm
  refine⟨a,?_,b⟩
  rw[insS_eq T.good a,Bool.and_eq_true]at b
  exact of_decide_eq_true b.1
 have bC:∀ h∈hs.filter (insS S),Nm (C h) (600*(r:Rat)*mT L n h):=fun h hm=>by
  obtain⟨a,k,b⟩:=hmem h hm
  have e:=int_term Rn (T.D h a)
  rw[insS_eq T.good a]at b
  rw[b,cond_true]at e
  rw[e]
  have q:=(nm_of (x:=(r:Rat)) (r:=(r:Rat)) (by rw[Rat.abs_of_nonneg (by grind)];exact Rat.le_refl)).mul ((kap_600 T a).mul (intG_one (s h))); exact q.mono (by grind)
 obtain⟨f,Z,sT,iZ,dZ,nZ⟩:=list_sum (ys:=hs.filter (insS S)) (wf:=fun h=>(wE1 h,wE2 h)) (vf:=C) (bf:=fun h=>600*(r:Rat)*mT L n h) (B:=600*(r:Rat)*MH hs L n) (Nat.le_trans (List.length_filter_le _ _) l6) (fun h hm=>by
   obtain⟨a,k,_⟩:=hmem h hm
   obtain⟨q1,q2⟩:=src_word (T.D h a) k
   have bx:=(T.good.fine h a).xy
   obtain⟨v1,e1,_⟩:=mulTau_is (n:=h.s) (a:=1000) bx.2.2.1 (Nat.le_refl _)
   obtain⟨v2,e2,_⟩:=mulTau_is (n:=h.t) (a:=1000) bx.2.2.2 (Nat.le_refl _)
   have:=q1 (Nat×Nat) fun a b=>some (a,b)
   unfold sclK at this
   rw[bindF_eq e1,bindF_eq e2]at this
   have e:(wE1 h,wE2 h)=c h:=Option.some.inj this
   rw[e]
   exact q2) bC (by
   rw[lsr_mulL]
   exact Rat.mul_le_mul_of_nonneg_left (lsr_part T _) (by grind)) (fit_RM T (by grind) M0.1 M0.2.2) (by
   have:=mul_mono' (show 600*(r:Rat)≤600*2000 by grind) M0.2.1 M0.1 (by decide +kernel)
   rw[big200_eq];grind)
 have hseen:∀ X∈els hs,Go.Vm.Seen (fI cx) (fI cy) S.lw X:=fun X hX=>by
  unfold els at hX
  obtain⟨h,h1,rfl⟩:=List.mem_map.1 hX
  exact T.good.see h (T.good.fine h h1)
 have hre:=re_call (S:=S) (hv:=hvE) (c:=(els hs).length) (sz:=4) (o:=0) (elsAt_cells (els hs)) (by omega) hseen (fun X hX R k=>by
  unfold els at hX
  obtain⟨h,h1,rfl⟩:=List.mem_map.1 hX
  have bx:=(T.good.fine h h1).xy
  obtain⟨v1,e1,_⟩:=mulTau_is (n:=h.s) (a:=1000) bx.2.2.1 (Nat.le_refl _)
  obtain⟨v2,e2,_⟩:=mulTau_is (n:=h.t) (a:=1000) bx.2.2.2 (Nat.le_refl _)
  unfold reH sclK; show bindF (fbF .mul (fI h.s) _) (fun x=>bindF (fbF .mul (fI h.t) _) fun y=>k x y)=_
  rw[bindF_eq e1,bindF_eq e2]
  rfl) (row_cells _).2.1 (clean_els T true) (f:=f) (by rw[reZ_all];exact sT)
 rw[reZ_all]at hre
 refine⟨_,_,Z,residues_call (row_cells _).2.1 hre,iZ,?_,?_⟩
 ·have e:lsm C (hs.filter (insS S))=Cp.of (r:Rat)*G1 hs s κ:=by
   have h:=lsm_filter C (Hn hs) (insS S) hs.length
   rw[hs_range]at h
   rw[h]
   unfold G1
   rw[csm_mul']
   refine csm_congr fun i hi=>?_
   rw[← int_term Rn (T.D _ (Hn_mem hi)),insS_eq T.good (Hn_mem hi)]
  rw[← e]
  exact dZ.mono (by grind)
 ·unfold G1
  refine(nm_csm_rsm (r:=fun i=>600*mH hs L n i) fun i hi=>?_).mono (by rw[rsm_mul];exact Rat.le_refl)
  rw[mH_eq]
  exact((kap_600 T (Hn_mem hi)).mul (intG_one _)).mono (by grind)
end
open Go.Vm Ieee
theorem nm_div {F:Cp} {n c:Rat} (hn:0<n) (h:Nm (Cp.of n*F) (n*c)):Nm F c:=by
 have c0:0≤c:=Rat.not_lt.1 fun hc=>by
  have:=Rat.mul_lt_mul_of_pos_left hc hn
  have:=h.1
  grind
 refine⟨c0,?_⟩
 have h2:=h.2
 rw[of_mul_nsq]at h2
 have nn:=Rat.mul_pos hn hn; refine Rat.not_lt.1 fun hl=>?_
 have:=Rat.mul_lt_mul_of_pos_left hl nn
 grind
theorem of_pw (x:Rat):∀ n,(Cp.of x).pw n=Cp.of (x^n)
 |0=>by rw[Rat.pow_zero];rfl
 |n+1=>by
  show (Cp.of x).pw n*Cp.of x=_
  rw[of_pw x n,Rat.pow_succ,Cp.of_mul_of]
section
variable {n:Nat} {z w:Nat→Cp} (hz:Pts rhoP sigP n z) (hw:Pts rhoP sigP n w) (hzw:∀ k,k<n→z k*w k=Cp.one) (hn:0<n)
include hz hw hzw hn
theorem fv_bound {b:Cp} {q:Nat} {l:List Fc} (hs:(Sd.inn b qB q).Ok rhoP) (ht:(Sd.out l).Ok rhoP):Nm (Fv b l q) (1001/1000*((Sd.inn b qB q).W*(Sd.out l).W)):=by
 have h:=pair_sum hz hw hzw hn hs ht; have n0:(0:Rat)<(n:Rat):=by exact_mod_cast hn
 have W1:1≤(Sd.inn b qB q).W:=(prod_sup hz.one (repF_ok hs.1 q) (hw.at_ 0 hn)).2; have W2:1≤(Sd.out l).W:=(prod_sup hz.one ht.1 (hz.at_ 0 hn)).2; have a:Nm (csm (fun k=>z k*((Sd.inn b qB q).at_ (z k) (w k)*(Sd.out l).at_ (z k) (w k))) n) ((n:Rat)*((1+1/100000)*((Sd.inn b qB q).W*(Sd.out l).W))):=by
  refine nm_csm fun k hk=>?_
  show Nm (z k*(inV b qB q (w k)*prodF l (z k))) _
  rw[inn_w hz hw hzw hn hs.2.1 hk]
  exact(nm_rho hz hw hzw hn hw (by have:=hs.2.2;omega) hk).mul (((prod_sup hz.one (repF_ok hs.1 q) (hw.at_ k hk)).1).mul (prod_sup hz.one ht.1 (hz.at_ k hk)).1)
 have k:=h.comm.near a; refine nm_div n0 (k.mono ?_); have ww:=mul_mono' W1 W2 (by decide) (by grind); have e1:=EE_le; have e2:=Rat.mul_le_mul_of_nonneg_left e1 (show 0≤(Sd.inn b qB q).W*(Sd.out l).W by grind); generalize (Sd.inn b qB q).W*(Sd.out l).W=X at *
 have:=Rat.mul_le_mul_of_nonneg_left (show X*EE+(1+1/100000)*X≤1001/1000*X by grind) (Rat.le_of_lt n0)
 grind
end
def nuH (h:Th):Nat:=if h.kind=2 then 0 else h.p.toNat
theorem whole_wrd:∀ m:Nat,m<5→1≤m→eqF (wholeW (wrd m)) (wrd m)=true:=by decide +kernel
section
variable (R:Type) (a1 a2 s1 s2 p:Nat) (k:Bool→Option R)
theorem sg_1:sgK R 1 a1 a2 s1 s2 p k=checkB placeK withinK noughtK wholeK R 1 a1 a2 s1 s2 p fun e=>bif e != 0 then k false else k false:=rfl
theorem sg_2:sgK R 2 a1 a2 s1 s2 p k=checkB placeK withinK noughtK wholeK R 2 a1 a2 s1 s2 p fun e=>bif e != 0 then k false else sclK R s1 s2 4594902181429758083 fun _ _=>k true:=rfl
theorem sg_3:sgK R 3 a1 a2 s1 s2 p k=checkB placeK withinK noughtK wholeK R 3 a1 a2 s1 s2 p fun e=>bif e != 0 then k false else (floatToIntVal .f64 p .i64).bind fun m=>fiReal R m fun _=>k true:=rfl
theorem sg_4:sgK R 4 a1 a2 s1 s2 p k=checkB placeK withinK noughtK wholeK R 4 a1 a2 s1 s2 p fun e=>bif e != 0 then k false else wholeK R p fun t=>bif t then (floatToIntVal .f64 p .i64).bind fun m=>fiReal R m fun _=>k false else bif ltF p 4607182418800017408 then k true else k false:=rfl
end
section
variable {cx cy r:Int} {hs:List Th} {n:Int} {S:Sight (fI cx) (fI cy) (fI r)}
theorem p_zero (g:Vm.Good S hs n) {h:Th} (hm:h∈hs) (k:h.kind=2):h.p=0:=by
 have c:=chk_v g hm; have hp:=(g.fine h hm).pow
 rw[k]at c
 unfold checkV at c; have ip:Is (fI h.p) (h.p:Rat):=fI_is (by omega)
 rw[eqF_is ip (by simpa using is_zero)]at c
 by_cases e:(h.p:Rat)=0
 ·exact_mod_cast e
 ·rw[decide_eq_false e]at c
  revert c; cases leF (absW (fI h.p)) 4787326403894837248<;>simp
theorem wi_ok (g:Vm.Good S hs n) {h:Th} (hm:h∈hs) (hc:h.kind=2→∃ c1 c2,∀(T:Type) (K:Nat→Nat→Option T),sclK T (fI h.s) (fI h.t) 4594902181429758083 K=K c1 c2):WiOk (fI cx) (fI cy) (fI r) (insB S h) h.el:=fun R yes no=>by
 have f:=g.fine h hm; have hp:=f.pow; have E:=eld g hm; have ip:Is (fI h.p) (h.p:Rat):=fI_is (by omega); have ti:floatToIntVal .f64 (fI h.p) .i64=some h.p:=toInt_is ip (by omega); show wiX sgK (siC (outC subK lengthK)) h.kind (fI h.x) (fI h.y) (fI h.s) (fI h.t) (fI h.p) (fI cx) (fI cy) (fI r) yes no=_; have see:∀ k:Nat→Option R,outC subK lengthK R (fI h.x) (fI h.y) (fI cx) (fI cy) k=k (S.lw h.el):=g.see h f R; have si:(h.kind=2∨h.kind=3)→siC (outC subK lengthK) R h.kind (fI h.x) (fI h.y) (fI cx) (fI cy) (fI r) (fun v=>bif decide (v<0) then yes else no)=bif insB S h then yes else no:=fun hk=>by
  show outC subK lengthK R (fI h.x) (fI h.y) (fI cx) (fI cy) (fun l=>bif h.kind == 1 then (bif decide ((0:Int)<0) then yes else no) else bif ltF l (fI r) then (bif decide ((-1:Int)<0) then yes else no) else (bif decide ((1:Int)<0) then yes else no))=_
  rw[see,lt_half g hm hk]
  unfold insB; rcases hk with k|k
  ·rw[k]
   show (bif leF (S.lw h.el) (halfW (fI r)) then yes else no)=bif (true && leF (S.lw h.el) (halfW (fI r))) then yes else no
   rw[Bool.true_and]
  ·rw[k]
   show (bif leF (S.lw h.el) (halfW (fI r)) then yes else no)=bif (true && leF (S.lw h.el) (halfW (fI r))) then yes else no
   rw[Bool.true_and]
 unfold wiX; rcases kinds g hm with k|k|⟨k,m,m1,m8,hpm⟩|⟨k,m,m1,m4,hpm⟩
 ·have ib:insB S h=false:=by unfold insB;rw[k];rfl
  rw[ib]
  rw[k]at E ⊢
  rw[sg_1,E.chk]
  rfl
 ·have s:=si (.inl k)
  rw[← s]
  obtain⟨c1,c2,hc⟩:=hc k
  rw[k]at E ⊢
  rw[sg_2,E.chk]
  show (bif (0:Int) != 0 then _ else sclK R (fI h.s) (fI h.t) 4594902181429758083 _)=_
  rw[hc]
  rfl
 ·have s:=si (.inr k)
  rw[← s]
  rw[k]at E ⊢
  rw[sg_3,E.chk,ti]
  show (bif (0:Int) != 0 then _ else fiReal R h.p _)=_
  rw[fi_real]
  rfl
 ·have ib:insB S h=false:=by unfold insB;rw[k];rfl
  have wm':fI h.p=wrd m:=by rw[hpm];exact fI_wrd m m1 (by omega)
  rw[ib]
  rw[k]at E ⊢
  rw[sg_4,E.chk,wholeK_eq ip,ti]
  rw[wm',whole_wrd m (by omega) m1]
  show (bif (0:Int) != 0 then _ else bif true then fiReal R h.p _ else _)=_
  rw[fi_real]
  rfl
end
def Fx (h:Th) (C:Cp):Cp:=if h.kind=2 then C else Cp.of (-((facN (nuH h-1):Rat))⁻¹)*gz h.s h.t
theorem facN_pos:∀ n,1≤facN n
 |0=>Nat.le_refl 1
 |n+1=>by
  have:=facN_pos n
  show 1≤(n+1)*facN n; exact Nat.le_trans this (Nat.le_mul_of_pos_left _ (by omega))
theorem facQ_pos (n:Nat):(1:Rat)≤(facN n:Rat):=by exact_mod_cast facN_pos n
theorem fx_is {R:Rat} {γ:Cp} {h:Th} {c:Nat×Nat} {C κ:Cp} {s:Sd} (hR:R≠0) (D:Dsc R γ h true c C s κ):s=.inn γ qB (nuH h+1)∧Fx h C*(Cp.of (facN (nuH h):Rat)*(Cp.of R⁻¹).pw (nuH h))=Cp.of R*κ∧nuH h≤8∧Nm γ (5075/10000):=by
 generalize hb:true=b at D; cases D with
 |stream k=>cases hb
 |srcO c C k hc iC lC nC hγ=>cases hb
 |dblO m k m1 m8 hp hγ=>cases hb
 |cor m k m1 m4 hp=>cases hb
 |srcI c C k hc iC lC nC hγ=>
  have e:nuH h=0:=by unfold nuH;rw[if_pos k]
  refine⟨by rw[e],?_,by omega,hγ⟩
  unfold Fx
  rw[if_pos k,e]
  show C*(Cp.of ((1:Nat):Rat)*Cp.one)=Cp.of R*(C*(Cp.one*Cp.of R⁻¹))
  rw[Cp.mul_one,show Cp.of ((1:Nat):Rat)=Cp.one from rfl,Cp.mul_one,Cp.one_mul,Cp.mul_comm C,of_back hR]
 |dblI m k m1 m8 hp hγ=>
  have kn:¬ h.kind=2:=by rw[k];decide
  have e:nuH h=m:=by unfold nuH;rw[if_neg kn,hp];rfl
  refine⟨by rw[e],?_,by omega,hγ⟩
  unfold Fx
  rw[if_neg kn,e,gz_times]
  obtain⟨j,rfl⟩:∃ j,m=j+1:=⟨m-1,by omega⟩
  rw[show j+1-1=j from rfl]
  have fj:=facQ_pos j; have e2:((facN (j+1):Nat):Rat)=((j+1:Nat):Rat)*(facN j:Rat):=by
   show (((j+1)*facN j:Nat):Rat)=_; push_cast;rfl
  have e3:-((facN j:Rat))⁻¹*((facN (j+1):Nat):Rat)=((-((j+1:Nat):Int):Int):Rat):=by
   rw[e2]
   have:=Rat.inv_mul_cancel _ (show (facN j:Rat)≠0 by grind)
   generalize (facN j:Rat)⁻¹=i at *
   push_cast; grind
  have e4:Cp.of R*(Cp.of R⁻¹).pw (j+1+1)=(Cp.of R⁻¹).pw (j+1):=by
   show Cp.of R*((Cp.of R⁻¹).pw (j+1)*Cp.of R⁻¹)=_
   rw[Cp.mul_comm ((Cp.of R⁻¹).pw (j+1)),of_back hR]
  rw[← e4]
  generalize (Cp.of R⁻¹).pw (j+1+1)=X; have e5:Cp.of (-((facN j:Rat))⁻¹)*gz h.s h.t*(Cp.of ((facN (j+1):Nat):Rat)*(Cp.of R*X))=(Cp.of (-((facN j:Rat))⁻¹)*Cp.of ((facN (j+1):Nat):Rat))*(Cp.of R*(gz h.s h.t*X)):=by simp only[Cp.mul_assoc,Cp.mul_left_comm,Cp.mul_comm]
  rw[e5,← Cp.of_mul_of,e3]
  simp only[Cp.mul_assoc,Cp.mul_left_comm,Cp.mul_comm]
theorem ft_390 {c x:Rat} (hc:1/1000≤c) (h:x=0∨(2:Rat)^(-390:Int)≤x):Fit (c*x):=by
 rcases h with h|h
 ·left;rw[h];grind
 ·right; have e:=mul_mono' hc h (Rat.le_of_lt (p2_pos (-390))) (Rat.le_trans (by decide +kernel) hc); have e2:(2:Rat)^(-390:Int)=(2:Rat)^(-400:Int)*(2:Rat)^(10:Int):=by rw[← p2_add];rfl
  rw[e2,show (2:Rat)^(10:Int)=1024 by rw[show (10:Int)=((10:Nat):Int) by rfl,p2_nat];rfl]at e
  have:=p2_pos (-400)
  generalize (2:Rat)^(-400:Int)=p at *
  grind
theorem ft_200 {c x:Rat} (hc:1/1000000000000000000000000000≤c) (h:x=0∨(2:Rat)^(-200:Int)≤x):Fit (c*x):=by
 rcases h with h|h
 ·left;rw[h];grind
 ·right; have e:=mul_mono' hc h (Rat.le_of_lt (p2_pos (-200))) (Rat.le_trans (by decide +kernel) hc); have e2:(2:Rat)^(-200:Int)=(2:Rat)^(-300:Int)*(2:Rat)^(100:Int):=by rw[← p2_add];rfl
  rw[e2,show (2:Rat)^(100:Int)=1267650600228229401496703205376 by rw[show (100:Int)=((100:Nat):Int) by rfl,p2_nat];rfl]at e
  have:=p2_pos (-300)
  have q:=p2_le (show (-400:Int)≤-300 by decide); refine Rat.le_trans q ?_; generalize (2:Rat)^(-300:Int)=p at *
  grind
theorem neg_isZ {a b:Nat} {A:Cp} (h:IsZ a b A):∃ p q,IsZ p q (-A)∧∀(R:Type) (k:Nat→Nat→Option R),negK R a b k=k p q:=
 ⟨_,_,⟨neg_is h.1,neg_is h.2⟩,fun R k=>by unfold negK;rw[forceN_eq,forceN_eq]⟩
theorem qv_of {R:Rat} {γ:Cp} {h:Th} {c:Nat×Nat} {C κ:Cp} {s:Sd} (f:FineT h) (D:Dsc R γ h true c C s κ) {z:Nat×Nat} {O:Cp} {ρ σ:Rat} (iO:IsZ z.1 z.2 O) (nO:Nm O σ) (nF:Nm (Fx h C) ρ) (fρ:Fit ρ) (fσ:Fit σ) (fp:ρ*σ=0∨(2:Rat)^(-390:Int)≤ρ*σ) (big:ρ*σ≤100000000000000000000000000000000000000000000000000):
  ∃(q:Nat×Nat) (Q:Cp),IsZ q.1 q.2 Q∧Nm (Q-Fx h C*O) (3*eps*(ρ*σ))∧QvOk h.el (nuH h:Int) z q:=by
 have ep:=eps_pos; have et:=eps_tiny; have ρ0:=nF.1; have σ0:=nO.1; have p0:=Rat.mul_nonneg ρ0 σ0; have ep0:=Rat.mul_nonneg (Rat.le_of_lt ep) p0; have b:=f.xy; generalize hb:true=bb at D; cases D with
 |stream k=>cases hb
 |srcO c C k hc iC lC nC hγ=>cases hb
 |dblO m k m1 m8 hp hγ=>cases hb
 |cor m k m1 m4 hp=>cases hb
 |srcI c C k hc iC lC nC hγ=>
  have e:Fx h C=C:=by unfold Fx;rw[if_pos k]
  rw[e]at nF ⊢
  obtain⟨p,q,P,iP,dP,hP⟩:=mulK_abs iC iO nF nO (by rw[big200_eq];grind) fρ fσ
  refine⟨(p,q),P,iP,dP.mono (by grind),fun R' K=>?_⟩
  show (bif h.kind == 2 then reH R' (fI h.s) (fI h.t) fun u1 u2=>mulK R' u1 u2 z.1 z.2 K else _)=_
  rw[k]
  show sclK R' (fI h.s) (fI h.t) 4594902181429758083 (fun u1 u2=>mulK R' u1 u2 z.1 z.2 K)=_
  rw[hc]
  exact hP R' K
 |dblI m k m1 m8 hp hγ=>
  have kn:¬ h.kind=2:=by rw[k];decide
  have en:nuH h=m:=by unfold nuH;rw[if_neg kn,hp];rfl
  obtain⟨j,rfl⟩:∃ j,m=j+1:=⟨m-1,by omega⟩
  have eF:Fx h (gz h.s h.t)=Cp.of (-((facN j:Rat))⁻¹)*gz h.s h.t:=by unfold Fx;rw[if_neg kn,en];rfl
  rw[eF]at nF ⊢
  obtain⟨t1,t2,t3⟩:=tab_fac j (by omega)
  have fj:=facQ_pos j; have f5:(facN j:Rat)≤5040:=by
   have:∀ j:Nat,j<8→facN j≤5040:=by decide
   exact_mod_cast this j (by omega)
  generalize hi:(facN j:Rat)⁻¹=ι at *
  have fι:(facN j:Rat)*ι=1:=by rw[← hi];exact Rat.mul_inv_cancel _ (by grind)
  have ι0:0<ι:=by rw[← hi];exact Rat.inv_pos.2 (by grind)
  have ι1:ι≤1:=by
   have:=Rat.mul_le_mul_of_nonneg_right fj (Rat.le_of_lt ι0)
   grind
  have iw:Is (fI ((facN j:Nat):Int)) (((facN j:Nat):Int):Rat):=fI_is (by omega)
  rw[show (((facN j:Nat):Int):Rat)=(facN j:Rat) by norm_cast]at iw
  generalize (facN j:Rat)=φ at *
  obtain⟨a1,a2,iA,hA⟩:=neg_isZ (isC_z f.st)
  have eA:-gz h.s h.t=Cp.of φ*(Cp.of (-ι)*gz h.s h.t):=by
   rw[← Cp.mul_assoc,← Cp.of_mul_of,show φ*-ι=-1 by grind]
   exact Cp.ext' (by simp only[Cp.neg_re,Cp.mul_re,Cp.of_re,Cp.of_im];grind) (by simp only[Cp.neg_im,Cp.mul_im,Cp.of_re,Cp.of_im];grind)
  have nA:Nm (-gz h.s h.t) (φ*ρ):=by
   rw[eA]
   exact(nm_of (by rw[Rat.abs_of_nonneg (by grind)];exact Rat.le_refl)).mul nF
  have φp:=mul_mono' f5 big p0 (by decide)
  obtain⟨p,q,P,iP,dP,hP⟩:=mulK_abs iA iO nA nO (by rw[big200_eq];grind) (ft_times fj ρ0 fρ) fσ
  have nP:Nm P (1001/1000*(φ*(ρ*σ))):=(dP.near (nA.mul nO)).mono (by
   have h1:=Rat.mul_nonneg (show 0≤φ by grind) p0
   have:=Rat.mul_le_mul_of_nonneg_right et h1
   rw[Rat.mul_assoc φ ρ σ]
   clear fp big φp eA nA fι f5 fj hi fρ fσ; generalize φ*(ρ*σ)=X at *
   clear nF nO iO dP hP; grind)
  have q1:(1:Rat)/φ=ι:=by rw[Rat.div_def,hi];grind
  have iw1:Is 4607182418800017408 (1:Rat):=by simpa using lit1
  obtain⟨ω,Ω,eω,iω,rω⟩:=div_is iw1 iw (by grind) (lt_22 (by rw[q1,Rat.abs_of_nonneg (Rat.le_of_lt ι0)];grind))
  rw[q1]at rω
  have ιlow:1/5040≤ι:=by
   refine Rat.not_lt.1 fun hl=>?_
   have:=Rat.mul_lt_mul_of_pos_left hl (show 0<φ by grind)
   grind
  have dω:=rnd2_q rω (B:=ι) (by rw[Rat.abs_of_nonneg (Rat.le_of_lt ι0)];exact Rat.le_refl) (Rat.le_trans p1000_le (by grind)); have aω:=abs_le_iff.1 dω; have eι:=Rat.mul_le_mul_of_nonneg_right et (Rat.le_of_lt ι0); have Ω0:0≤Ω:=by grind
  have Ωa:Ω.abs=Ω:=Rat.abs_of_nonneg Ω0; have Ω1:Ω≤1001/1000*ι:=by grind
  have Ω2:999/1000*ι≤Ω:=by grind
  have φΩ1:φ*Ω≤1001/1000:=by
   have:=Rat.mul_le_mul_of_nonneg_left Ω1 (show 0≤φ by grind)
   grind
  have φΩ2:999/1000≤φ*Ω:=by
   have:=Rat.mul_le_mul_of_nonneg_left Ω2 (show 0≤φ by grind)
   grind
  have eB:1001/1000*(φ*(ρ*σ))*Ω.abs=1001/1000*(φ*Ω)*(ρ*σ):=by rw[Ωa];grind
  obtain⟨u1,u2,Q,iQ,dQ,hQ⟩:=sclK_abs iP iω nP (by rw[eB];exact ft_390 (by grind) fp) (by
   rw[eB,big200_eq]
   have:=mul_mono' (show 1001/1000*(φ*Ω)≤2 by grind) big p0 (by decide)
   grind)
  refine⟨(u1,u2),Q,iQ,?_,fun R' K=>?_⟩
  ·have k1:Nm (Cp.of (Ω-ι)*P) (eps/2*ι*(1001/1000*(φ*(ρ*σ)))):=(nm_of dω).mul nP; have k2:Nm (Cp.of ι*(P - -gz h.s h.t*O)) (ι*(eps*(φ*ρ*σ))):=(nm_of (by rw[Rat.abs_of_nonneg (Rat.le_of_lt ι0)];exact Rat.le_refl)).mul dP; have k3:=dQ.add (k1.add k2); have ee:Q-Cp.of Ω*P+(Cp.of (Ω-ι)*P+Cp.of ι*(P - -gz h.s h.t*O))=Q-Cp.of (-ι)*gz h.s h.t*O:=by
    generalize gz h.s h.t=G; refine Cp.ext' ?_ ?_
    ·simp only[Cp.add_re,Cp.sub_re,Cp.neg_re,Cp.mul_re,Cp.mul_im,Cp.of_re,Cp.of_im,Cp.sub_im,Cp.neg_im];grind
    ·simp only[Cp.add_im,Cp.sub_re,Cp.neg_re,Cp.mul_re,Cp.mul_im,Cp.of_re,Cp.of_im,Cp.sub_im,Cp.neg_im];grind
   rw[ee]at k3
   refine k3.mono ?_
   rw[eB]
   have v1:eps/2*ι*(1001/1000*(φ*(ρ*σ)))=1001/2000*(eps*(ρ*σ))*(φ*ι):=by grind
   have v2:ι*(eps*(φ*ρ*σ))=eps*(ρ*σ)*(φ*ι):=by grind
   rw[v1,v2,fι]
   have v3:=Rat.mul_le_mul_of_nonneg_right φΩ1 ep0; grind
  ·show (bif h.kind == 2 then _ else negK R' (fI h.s) (fI h.t) fun u1 u2=>mulK R' u1 u2 z.1 z.2 fun v1 v2=>prodK R' 1 ((nuH h:Int)-1) fun w=>bindF (fbF .quo 4607182418800017408 w) fun w=>sclK R' v1 v2 w K)=_
   rw[k,en]
   show negK R' (fI h.s) (fI h.t) _=_
   rw[hA,hP,prod_look t1,bindF_eq eω]
   exact hQ R' K
def outL:Sd→List Fc
 |.out L=>L
 |.inn _ _ _=>[]
theorem out_is {R:Rat} {γ:Cp} {h:Th} {c:Nat×Nat} {C κ:Cp} {s:Sd} (D:Dsc R γ h false c C s κ):s=.out (outL s):=by
 generalize hb:false=bb at D; cases D<;>first|rfl|cases hb
def tauH (r:Int) (X:Th):Rat:=(facN (nuH X):Rat)*((r:Rat)⁻¹)^(nuH X)
def dXY (cx cy r:Int) (κ:Th→Cp) (s:Th→Sd) (X Y:Th):Cp:=κ Y*(Cp.of (facN (nuH X):Rat)*(Cp.of ((r:Rat))⁻¹).pw (nuH X))*Fv (gmm cx cy r X) (outL (s Y)) (nuH X+1)
theorem tau_of (r:Int) (X:Th):Cp.of (facN (nuH X):Rat)*(Cp.of ((r:Rat))⁻¹).pw (nuH X)=Cp.of (tauH r X):=by
 unfold tauH
 rw[of_pw,← Cp.of_mul_of]
theorem tau_in {r:Int} {X:Th} (R1:(1:Rat)≤(r:Rat)) (R2:(r:Rat)≤2000) (h8:nuH X≤8):1/1000000000000000000000000000≤tauH r X∧tauH r X≤40320:=by
 have f1:=facQ_pos (nuH X); have f2:(facN (nuH X):Rat)≤40320:=by
  have:∀ j:Nat,j<9→facN j≤40320:=by decide
  exact_mod_cast this _ (by omega)
 have i0:0<((r:Rat))⁻¹:=Rat.inv_pos.2 (by grind); have ri:=Rat.mul_inv_cancel (r:Rat) (by grind); have i1:((r:Rat))⁻¹≤1:=by
  have:=Rat.mul_le_mul_of_nonneg_right R1 (Rat.le_of_lt i0)
  grind
 have i2:1/2000≤((r:Rat))⁻¹:=by
  have:=Rat.mul_le_mul_of_nonneg_right R2 (Rat.le_of_lt i0)
  grind
 have p1:((r:Rat)⁻¹)^(nuH X)≤1:=by
  have:=pow_mono (Rat.le_of_lt i0) i1 (nuH X)
  rwa [one_powQ]at this
 have p2:((1:Rat)/2000)^(nuH X)≤((r:Rat)⁻¹)^(nuH X):=pow_mono (by decide +kernel) i2 _; have p3:∀ j:Nat,j<9→(1:Rat)/1000000000000000000000000000≤(1/2000)^j:=by decide +kernel
 have p4:=p3 (nuH X) (by omega); have p0:0≤((r:Rat)⁻¹)^(nuH X):=Rat.pow_nonneg (Rat.le_of_lt i0); unfold tauH; constructor
 ·have:=Rat.mul_le_mul_of_nonneg_right f1 p0
  grind
 ·have:=mul_mono' f2 p1 p0 (by decide)
  grind
section
variable {cx cy r:Int} {S:Sight (fI cx) (fI cy) (fI r)} {hs:List Th} {n:Nat} {dK zK dM zM:Nat→Nat×Nat} {DK ZK DM ZM z w zm wm:Nat→Cp} {c:Th→Nat×Nat} {C:Th→Cp} {s:Th→Sd} {κ:Th→Cp} {v vM:Th→Nat→Nat×Nat} {V:Th→Nat→Cp} {wM:Th→Nat→Nat} {L:Th→Nat→Rat}
 (T:Dat S hs n dK zK dM zM DK ZK DM ZM z w zm wm c C s κ v vM V wM L)
include T
theorem Rne:(r:Rat)≠0:=by have:=Rq T;grind
theorem ins_is {X:Th} (hm:X∈hs) (hi:insB S X=true):s X=.inn (gmm cx cy r X) qB (nuH X+1)∧Fx X (C X)*Cp.of (tauH r X)=Cp.of (r:Rat)*κ X∧nuH X≤8∧Nm (gmm cx cy r X) (5075/10000)∧Dsc (r:Rat) (gmm cx cy r X) X true (c X) (C X) (s X) (κ X):=by
 have D:=T.D X hm
 rw[hi]at D
 obtain⟨a,b,d,e⟩:=fx_is (Rne T) D
 exact⟨a,by rw[← tau_of];exact b,d,e,D⟩
theorem outs_is {Y:Th} (hm:Y∈hs) (hi:insB S Y=false):s Y=.out (outL (s Y)):=by
 have D:=T.D Y hm
 rw[hi]at D
 exact out_is D
theorem pair_is {X Y:Th} (hX:X∈hs) (hY:Y∈hs) (iX:insB S X=true) (iY:insB S Y=false):Fx X (C X)*dXY cx cy r κ s X Y=Cp.of (r:Rat)*(κ X*κ Y*(s X).pairG (s Y)):=by
 obtain⟨a,b,_,_,_⟩:=ins_is T hX iX
 have o:=outs_is T hY iY; have e:(s X).pairG (s Y)=Fv (gmm cx cy r X) (outL (s Y)) (nuH X+1):=by rw[a,o];rfl
 rw[e]
 unfold dXY
 rw[tau_of]
 generalize Fv (gmm cx cy r X) (outL (s Y)) (nuH X+1)=F; have e2:Fx X (C X)*(κ Y*Cp.of (tauH r X)*F)=(Fx X (C X)*Cp.of (tauH r X))*(κ Y*F):=by simp only[Cp.mul_assoc,Cp.mul_left_comm,Cp.mul_comm]
 rw[e2,b]
 simp only[Cp.mul_assoc,Cp.mul_left_comm,Cp.mul_comm]
theorem G2_is:Cp.of (r:Rat)*G2 hs s κ=Cp.of 2*lsm (fun X=>Fx X (C X)*lsm (dXY cx cy r κ s X) (hs.filter fun h=>!insB S h)) (hs.filter (insB S)):=by
 have hl:=fun X=>lsm_filter (dXY cx cy r κ s X) (Hn hs) (fun h=>!insB S h) hs.length
 have hl2:=lsm_filter (fun X=>Fx X (C X)*lsm (dXY cx cy r κ s X) (hs.filter fun h=>!insB S h)) (Hn hs) (insB S) hs.length
 rw[hs_range]at hl2
 simp only[hs_range]at hl
 rw[hl2]
 let A:Nat→Nat→Cp:=fun i j=>bif insB S (Hn hs i) && !insB S (Hn hs j) then κ (Hn hs i)*κ (Hn hs j)*(s (Hn hs i)).pairG (s (Hn hs j)) else Cp.zero
 have e1:G2 hs s κ=csm (fun i=>csm (fun j=>A i j) hs.length) hs.length+csm (fun i=>csm (fun j=>A j i) hs.length) hs.length:=by
  unfold G2
  rw[← csm_add]
  refine csm_congr fun i hi=>?_
  rw[← csm_add]
  refine csm_congr fun j hj=>?_
  have mi:=Hn_mem hi; have mj:=Hn_mem hj; show _=(bif insB S (Hn hs i) && !insB S (Hn hs j) then _ else Cp.zero)+(bif insB S (Hn hs j) && !insB S (Hn hs i) then _ else Cp.zero); cases a:insB S (Hn hs i) with
  |true=>
   cases b:insB S (Hn hs j) with
   |true=>
    show _=Cp.zero+Cp.zero
    rw[(ins_is T mi a).1,(ins_is T mj b).1]
    show _*Cp.zero=_
    rw[Cp.mul_zero,Cp.add_zero]
   |false=>
    show _=_+Cp.zero
    rw[Cp.add_zero]
    rfl
  |false=>
   cases b:insB S (Hn hs j) with
   |true=>
    show _=Cp.zero+_
    rw[Cp.zero_add]
    show _=κ (Hn hs j)*κ (Hn hs i)*(s (Hn hs j)).pairG (s (Hn hs i))
    rw[(ins_is T mj b).1,outs_is T mi a,Cp.mul_comm (κ (Hn hs i))]
    rfl
   |false=>
    show _=Cp.zero+Cp.zero
    rw[outs_is T mi a,outs_is T mj b]
    show _*Cp.zero=_
    rw[Cp.mul_zero,Cp.add_zero]
 have e2:csm (fun i=>csm (fun j=>A j i) hs.length) hs.length=csm (fun i=>csm (fun j=>A i j) hs.length) hs.length:=csm_swap (fun i k=>A i k) hs.length hs.length; have e3:Cp.of (r:Rat)*csm (fun i=>csm (fun j=>A i j) hs.length) hs.length=csm (fun i=>bif insB S (Hn hs i) then Fx (Hn hs i) (C (Hn hs i))*lsm (dXY cx cy r κ s (Hn hs i)) (hs.filter fun h=>!insB S h) else Cp.zero) hs.length:=by
  rw[csm_mul']
  refine csm_congr fun i hi=>?_
  have mi:=Hn_mem hi; cases a:insB S (Hn hs i) with
  |true=>
   rw[cond_true,hl,csm_mul',csm_mul']
   refine csm_congr fun j hj=>?_
   have mj:=Hn_mem hj; show Cp.of (r:Rat)*(bif insB S (Hn hs i) && !insB S (Hn hs j) then _ else Cp.zero)=_
   rw[a]
   cases b:insB S (Hn hs j) with
   |true=>show Cp.of (r:Rat)*Cp.zero=_*Cp.zero;rw[Cp.mul_zero,Cp.mul_zero]
   |false=>exact(pair_is T mi mj a b).symm
  |false=>
   rw[cond_false]
   have:csm (fun j=>A i j) hs.length=csm (fun _=>Cp.zero) hs.length:=csm_congr fun j hj=>by
    show (bif insB S (Hn hs i) && !insB S (Hn hs j) then _ else Cp.zero)=_
    rw[a];rfl
   rw[this,csm_zero,Cp.mul_zero]
 rw[e1,e2,← e3]
 generalize csm (fun i=>csm (fun j=>A i j) hs.length) hs.length=X; refine Cp.ext' ?_ ?_
 ·simp only[Cp.mul_re,Cp.of_re,Cp.of_im,Cp.add_re,Cp.add_im,Cp.mul_im];grind
 ·simp only[Cp.mul_im,Cp.of_re,Cp.of_im,Cp.add_re,Cp.add_im,Cp.mul_re];grind
theorem d_size {X Y:Th} (hX:X∈hs) (hY:Y∈hs) (iX:insB S X=true) (iY:insB S Y=false):Nm (dXY cx cy r κ s X Y) (6006/10*(tauH r X*(s X).W)*mT L n Y):=by
 obtain⟨R1,R2⟩:=Rq T
 obtain⟨a,b,h8,_,_⟩:=ins_is T hX iX
 have o:=outs_is T hY iY
 obtain⟨W1,mX0,bX,_⟩:=size_h T hX
 obtain⟨W2,mY0,bY,_⟩:=size_h T hY
 have okX:=(T.E X hX).side.ok; have okY:=(T.E Y hY).side.ok; have t0:=tau_in R1 R2 h8; have fv:Nm (Fv (gmm cx cy r X) (outL (s Y)) (nuH X+1)) (1001/1000*((s X).W*(s Y).W)):=by
  rw[a]at okX ⊢
  rw[o]at okY
  have:=fv_bound T.P.pz T.P.pw T.P.zw (n_pos T) okX okY
  rw[← o]at this
  exact this
 unfold dXY
 rw[tau_of]
 have k:=(bY.mul (nm_of (x:=tauH r X) (r:=tauH r X) (by rw[Rat.abs_of_nonneg (by grind)];exact Rat.le_refl))).mul fv; refine k.mono ?_; have e:600*mT L n Y/(s Y).W*tauH r X*(1001/1000*((s X).W*(s Y).W))=(600*mT L n Y/(s Y).W*(s Y).W)*(tauH r X*(1001/1000*(s X).W)):=by grind
 rw[e,Rat.div_mul_cancel (by grind)]
 grind
theorem F_size {X:Th} (hX:X∈hs) (iX:insB S X=true):Nm (Fx X (C X)) ((r:Rat)/tauH r X*(600*mT L n X/(s X).W)):=by
 obtain⟨R1,R2⟩:=Rq T
 obtain⟨a,b,h8,_,_⟩:=ins_is T hX iX
 obtain⟨W1,mX0,bX,_⟩:=size_h T hX
 have t0:=tau_in R1 R2 h8; have e:Fx X (C X)=Cp.of ((r:Rat)/tauH r X)*κ X:=by
  have h:Cp.of (tauH r X)⁻¹*(Fx X (C X)*Cp.of (tauH r X))=Cp.of (tauH r X)⁻¹*(Cp.of (r:Rat)*κ X):=by rw[b]
  have e1:Cp.of (tauH r X)⁻¹*(Fx X (C X)*Cp.of (tauH r X))=(Cp.of (tauH r X)⁻¹*Cp.of (tauH r X))*Fx X (C X):=by simp only[Cp.mul_assoc,Cp.mul_left_comm,Cp.mul_comm]
  rw[e1,← Cp.of_mul_of,Rat.inv_mul_cancel _ (by grind),show Cp.of 1=Cp.one from rfl,Cp.one_mul,← Cp.mul_assoc,← Cp.of_mul_of]at h
  rw[h,Rat.div_def,Rat.mul_comm]
 rw[e]
 have d0:0≤(r:Rat)/tauH r X:=by
  rw[Rat.div_def]
  exact Rat.mul_nonneg (by grind) (Rat.le_of_lt (Rat.inv_pos.2 (by grind)))
 exact(nm_of (by rw[Rat.abs_of_nonneg d0];exact Rat.le_refl)).mul bX
end
theorem pick2 {α β:Type} [Inhabited β] {P:α→α→Prop} {Q:α→α→β→Prop} (h:∀ a b,P a b→∃ x,Q a b x):∃ f:α→α→β,∀ a b,P a b→Q a b (f a b):=by
 have:=Classical.axiomOfChoice (r:=fun(a:α×α) x=>P a.1 a.2→Q a.1 a.2 x) fun a=>by
  by_cases ha:P a.1 a.2
  ·obtain⟨x,hx⟩:=h a.1 a.2 ha
   exact⟨x,fun _=>hx⟩
  ·exact⟨default,fun h=>absurd h ha⟩
 obtain⟨f,hf⟩:=this
 exact⟨fun a b=>f (a,b),fun a b=>hf (a,b)⟩
theorem fI_inj {a b:Int} (ha:a.natAbs≤1000) (hb:b.natAbs≤1000) (h:fI a=fI b):a=b:=by
 have i1:Is (fI a) (a:Rat):=fI_is (by omega); have i2:Is (fI b) (b:Rat):=fI_is (by omega)
 rw[h]at i1
 have:=is_val i1 i2
 exact Rat.intCast_inj.1 this
theorem el_inj {a b:Th} (ha:FineT a) (hb:FineT b) (h:a.el=b.el):a=b:=by
 have xa:=ha.xy; have xb:=hb.xy; have pa:=ha.pow; have pb:=hb.pow; cases a with|mk k x y s t p=>
 cases b with|mk k' x' y' s' t' p'=>
 unfold Th.el at h; simp only[El.mk.injEq]at h
 obtain⟨h1,h2,h3,h4,h5,h6⟩:=h
 simp only at xa xb pa pb
 rw[h1,fI_inj xa.1 xb.1 h2,fI_inj xa.2.1 xb.2.1 h3,fI_inj xa.2.2.1 xb.2.2.1 h4,fI_inj xa.2.2.2 xb.2.2.2 h5,fI_inj pa pb h6]
theorem th_of {hs:List Th} (hf:∀ h∈hs,FineT h):∃ th:El→Th,∀ h∈hs,th h.el=h:=by
 have:=Classical.axiomOfChoice (r:=fun(x:El) (h:Th)=>∀ h'∈hs,h'.el=x→h=h') fun x=>by
  by_cases hx:∃ h∈hs,h.el=x
  ·obtain⟨h,hm,rfl⟩:=hx
   exact⟨h,fun h' hm' e=>el_inj (hf h hm) (hf h' hm') e.symm⟩
  ·exact⟨⟨0,0,0,0,0,0⟩,fun h' hm' e=>absurd ⟨h',hm',e⟩ hx⟩
 obtain⟨f,hf⟩:=this
 exact⟨f,fun h hm=>hf h.el h hm rfl⟩
theorem lsm_sub_nm {α:Type} [Inhabited α] {f g:α→Cp} {b:α→Rat} {ys:List α} (h:∀ y∈ys,Nm (f y-g y) (b y)):Nm (lsm f ys-lsm g ys) (lsr b ys):=by
 rw[lsm_csm,lsm_csm,lsr_rsm]
 exact csm_sub_nm fun k hk=>h _ (getD_mem hk)
theorem lsm_nm {α:Type} [Inhabited α] {f:α→Cp} {b:α→Rat} {ys:List α} (h:∀ y∈ys,Nm (f y) (b y)):Nm (lsm f ys) (lsr b ys):=by
 rw[lsm_csm,lsr_rsm]
 exact nm_csm_rsm fun k hk=>h _ (getD_mem hk)
theorem rs_mul {r t m W M x:Rat} (ht:t≠0) (hW:W≠0):r/t*(600*m/W)*(x*(t*W)*M)=600*x*(r*m*M):=by
 have a:=Rat.mul_inv_cancel _ ht; have b:=Rat.mul_inv_cancel _ hW
 rw[Rat.div_def,Rat.div_def]
 generalize t⁻¹=t' at *
 generalize W⁻¹=W' at *
 have:r*t'*(600*m*W')*(x*(t*W)*M)=600*x*(r*m*M)*(t*t')*(W*W'):=by grind
 rw[this,a,b];grind
section
variable {cx cy r:Int} {S:Sight (fI cx) (fI cy) (fI r)} {hs:List Th} {n:Nat} {dK zK dM zM:Nat→Nat×Nat} {DK ZK DM ZM z w zm wm:Nat→Cp} {c:Th→Nat×Nat} {C:Th→Cp} {s:Th→Sd} {κ:Th→Cp} {v vM:Th→Nat→Nat×Nat} {V:Th→Nat→Cp} {wM:Th→Nat→Nat} {L:Th→Nat→Rat}
 (T:Dat S hs n dK zK dM zM DK ZK DM ZM z w zm wm c C s κ v vM V wM L)
include T
theorem term_of {dv:Th→Th→(Nat×Nat)×Cp} (hdv:∀ X Y,(X∈hs∧Y∈hs∧insB S X=true∧insB S Y=false)→IsZ (dv X Y).1.1 (dv X Y).1.2 (dv X Y).2∧Rl (dv X Y).2 (dXY cx cy r κ s X Y) (105*eps)∧DvOk X.el (nuH X:Int) Y.el (dv X Y).1) {X:Th} (hX:X∈hs) (iX:insB S X=true):
  ∃(f:Nat→Nat×Nat) (q:Nat×Nat) (Q:Cp),SumT ((hs.filter fun h=>!insB S h).map fun Y=>(dv X Y).1) f∧QvOk X.el (nuH X:Int) (f ((hs.filter fun h=>!insB S h).map fun Y=>(dv X Y).1).length) q∧IsZ q.1 q.2 Q∧
   Nm (Q-Fx X (C X)*lsm (dXY cx cy r κ s X) (hs.filter fun h=>!insB S h)) (114*eps*(361000*(r:Rat)*MH hs L n)*mT L n X)∧Nm Q (361000*(r:Rat)*MH hs L n*mT L n X):=by
 have ep:=eps_pos; have et:=eps_tiny
 obtain⟨R1,R2⟩:=Rq T
 have M0:=M_facts T; have l6:=T.good.len6
 obtain⟨a,b,h8,bX,D⟩:=ins_is T hX iX
 obtain⟨W1,m0,bκ,fm⟩:=size_h T hX
 have t0:=tau_in R1 R2 h8; have W2:(s X).W≤593:=by
  rw[a]
  show wL (repF _ qB _)≤_
  rw[repF_w]
  exact geo_w (by omega)
 have tW0:1/1000000000000000000000000000≤tauH r X*(s X).W:=by
  have:=mul_mono' t0.1 W1 (by decide) (by grind)
  grind
 have tW1:tauH r X*(s X).W≤40320*593:=mul_mono' t0.2 W2 (by grind) (by decide); have hmem:∀ Y∈hs.filter (fun h=>!insB S h),Y∈hs∧insB S Y=false:=fun Y hY=>by
  obtain⟨p,q⟩:=List.mem_filter.1 hY
  exact⟨p,by simpa using q⟩
 have sz:=fun Y (hY:Y∈hs.filter (fun h=>!insB S h))=>d_size T hX (hmem Y hY).1 iX (hmem Y hY).2
 have pr:=fun Y (hY:Y∈hs.filter (fun h=>!insB S h))=>hdv X Y ⟨hX,(hmem Y hY).1,iX,(hmem Y hY).2⟩
 have c0:0≤tauH r X*(s X).W:=by grind
 obtain⟨f,O,sT,iO,dO,nO⟩:=list_sum (ys:=hs.filter fun h=>!insB S h) (wf:=fun Y=>(dv X Y).1) (vf:=fun Y=>(dv X Y).2) (bf:=fun Y=>601*(tauH r X*(s X).W)*mT L n Y) (B:=601*(tauH r X*(s X).W)*MH hs L n) (Nat.le_trans (List.length_filter_le _ _) l6) (fun Y hY=>(pr Y hY).1) (fun Y hY=>by
   have e:=((pr Y hY).2.1.err (sz Y hY)).near (sz Y hY); refine e.mono ?_; have y0:=Rat.mul_nonneg c0 (size_h T (hmem Y hY).1).2.1; have ey:=Rat.mul_le_mul_of_nonneg_right et y0
   rw[Rat.mul_assoc (6006/10),Rat.mul_assoc 601]
   generalize tauH r X*(s X).W*mT L n Y=x at *
   clear sz pr e; grind) (by
   rw[lsr_mulL]
   exact Rat.mul_le_mul_of_nonneg_left (lsr_part T _) (by grind)) (ft_200 (by grind) M0.2.2) (by
   have:=mul_mono' (show 601*(tauH r X*(s X).W)≤601*(40320*593) by grind) M0.2.1 M0.1 (by decide +kernel)
   rw[big200_eq];grind)
 have F:=F_size T hX iX; have eρ:=rs_mul (r:=(r:Rat)) (m:=mT L n X) (M:=MH hs L n) (x:=1001/1000*601) (show tauH r X≠0 by grind) (show (s X).W≠0 by grind); have eσ:1001/1000*(601*(tauH r X*(s X).W)*MH hs L n)=1001/1000*601*(tauH r X*(s X).W)*MH hs L n:=by grind
 have mM0:=Rat.mul_nonneg m0 M0.1; have rmM0:0≤(r:Rat)*mT L n X*MH hs L n:=by have:=Rat.mul_nonneg (show 0≤(r:Rat) by grind) mM0;grind
 have fmM:(r:Rat)*mT L n X*MH hs L n=0∨(2:Rat)^(-400:Int)≤(r:Rat)*mT L n X*MH hs L n:=by
  rcases fm with h|h
  ·left;rw[h];grind
  rcases M0.2.2 with g|g
  ·left;rw[g];grind
  right; have e:=mul_mono' h g (Rat.le_of_lt (p2_pos _)) m0
  rw[← p2_add,show (-200+-200:Int)=-400 by decide]at e
  have e2:=Rat.mul_le_mul_of_nonneg_right R1 mM0; grind
 have mMb:(r:Rat)*mT L n X*MH hs L n≤2000*1220400000000000000*1220400000000000000:=by
  have mb:mT L n X≤1220400000000000000:=by
   refine Rat.le_trans ?_ M0.2.1
   rw[M_lsr T]
   exact lsr_one (fun h hm=>(size_h T hm).2.1) hX
  have h1:=mul_mono' R2 mb m0 (by decide); exact mul_mono' h1 M0.2.1 M0.1 (by decide +kernel)
 rw[eσ]at nO
 obtain⟨q,Q,iQ,dQ,hQ⟩:=qv_of (T.good.fine X hX) D iO nO F (by
   rw[show (r:Rat)/tauH r X*(600*mT L n X/(s X).W)=(r:Rat)*600*((tauH r X)⁻¹*((s X).W)⁻¹)*mT L n X by rw[Rat.div_def,Rat.div_def];grind]
   refine ft_200 ?_ fm
   have u1:1/40320≤(tauH r X)⁻¹:=by
    refine Rat.not_lt.1 fun hl=>?_
    have:=Rat.mul_inv_cancel (tauH r X) (by grind)
    have h2:=Rat.mul_lt_mul_of_pos_left hl (show 0<tauH r X by grind); grind
   have u2:1/593≤((s X).W)⁻¹:=by
    refine Rat.not_lt.1 fun hl=>?_
    have:=Rat.mul_inv_cancel ((s X).W) (by grind)
    have h2:=Rat.mul_lt_mul_of_pos_left hl (show 0<(s X).W by grind); grind
   have u3:=mul_mono' u1 u2 (by decide +kernel) (Rat.le_trans (by decide +kernel) u1); have u4:=mul_mono' (show 600≤(r:Rat)*600 by grind) u3 (by decide +kernel) (by grind); exact Rat.le_trans (by decide +kernel) u4) (ft_200 (by grind) M0.2.2) (by
   rw[eρ]
   rcases fmM with h|h
   ·left;rw[h];grind
   ·right; have e2:(2:Rat)^(-390:Int)=(2:Rat)^(-400:Int)*(2:Rat)^(10:Int):=by rw[← p2_add];rfl
    rw[e2,show (2:Rat)^(10:Int)=1024 by rw[show (10:Int)=((10:Nat):Int) by rfl,p2_nat];rfl]
    have:=p2_pos (-400)
    generalize (2:Rat)^(-400:Int)=p at *
    grind) (by rw[eρ];grind)
 rw[eρ]at dQ
 have k1:Nm (lsm (fun Y=>(dv X Y).2) (hs.filter fun h=>!insB S h)-lsm (dXY cx cy r κ s X) (hs.filter fun h=>!insB S h)) (105*eps*(601*(tauH r X*(s X).W)*MH hs L n)):=by
  have:=lsm_sub_nm (f:=fun Y=>(dv X Y).2) (g:=dXY cx cy r κ s X) (b:=fun Y=>6006/10*(tauH r X*(s X).W)*(105*eps)*mT L n Y) (ys:=hs.filter fun h=>!insB S h) (fun Y hY=>((pr Y hY).2.1.err (sz Y hY)).mono (by grind))
  refine this.mono ?_
  rw[lsr_mulL]
  have h2:=Rat.mul_le_mul_of_nonneg_left (lsr_part T (fun h=>!insB S h)) (show 0≤6006/10*(tauH r X*(s X).W)*(105*eps) from Rat.mul_nonneg (by grind) (by grind)); refine Rat.le_trans h2 ?_; have x0:=Rat.mul_nonneg (Rat.mul_nonneg c0 M0.1) (Rat.le_of_lt ep); generalize tauH r X*(s X).W=y at *
  grind
 have k2:Nm (O-lsm (dXY cx cy r κ s X) (hs.filter fun h=>!insB S h)) (111*eps*(601*(tauH r X*(s X).W)*MH hs L n)):=(dO.tri k1).mono (by grind); have k3:Nm (lsm (dXY cx cy r κ s X) (hs.filter fun h=>!insB S h)) (6006/10*(tauH r X*(s X).W)*MH hs L n):=by
  refine(lsm_nm sz).mono ?_
  rw[lsr_mulL]
  exact Rat.mul_le_mul_of_nonneg_left (lsr_part T _) (by grind)
 have k4:=F.mul k2
 rw[show (r:Rat)/tauH r X*(600*mT L n X/(s X).W)*(111*eps*(601*(tauH r X*(s X).W)*MH hs L n))=111*eps*((r:Rat)/tauH r X*(600*mT L n X/(s X).W)*(601*(tauH r X*(s X).W)*MH hs L n)) by grind,rs_mul (by grind) (by grind)]at k4
 have k5:=F.mul k3
 rw[rs_mul (by grind) (by grind)]at k5
 have exmM:=Rat.mul_nonneg (Rat.le_of_lt ep) rmM0; have eemM:=Rat.mul_le_mul_of_nonneg_right et rmM0
 rw[Cp.mul_sub]at k4
 have k6:=dQ.tri k4; have eR:361000*(r:Rat)*MH hs L n*mT L n X=361000*((r:Rat)*mT L n X*MH hs L n):=by grind
 have eR2:114*eps*(361000*(r:Rat)*MH hs L n)*mT L n X=114*361000*(eps*((r:Rat)*mT L n X*MH hs L n)):=by grind
 refine⟨f,q,Q,sT,hQ,iQ,?_,?_⟩
 ·rw[eR2]
  refine k6.mono ?_
  generalize (r:Rat)*mT L n X*MH hs L n=x at *
  clear sz pr k1 k2 k3 k4 k5 dQ eR eR2 fmM mMb; grind
 ·rw[eR]
  refine(k6.near k5).mono ?_
  generalize (r:Rat)*mT L n X*MH hs L n=x at *
  clear sz pr k1 k2 k3 k4 k5 dQ eR eR2 fmM mMb; grind
where
 lsr_one {f:Th→Rat}:∀{l:List Th} (h0:∀ h∈l,0≤f h) {X:Th} (hX:X∈l),f X≤lsr f l:=fun{l} h0 {X} hX=>by
  rw[lsr_rsm]
  obtain⟨i,hi,e⟩:=List.getElem_of_mem hX
  have e2:f X=(fun k=>f (l.getD k default)) i:=by
   show f X=f (l.getD i default)
   rw[List.getD_eq_getElem?_getD,List.getElem?_eq_getElem hi,e];rfl
  rw[e2]
  have h0':∀ k,k<l.length→0≤(fun k=>f (l.getD k default)) k:=fun k hk=>h0 _ (getD_mem hk)
  have a:=rsm_le_one h0' (j:=i+1) (by omega); have b:=rsm_nonneg (f:=fun k=>f (l.getD k default)) (n:=i) fun k hk=>h0' k (by omega)
  have e3:rsm (fun k=>f (l.getD k default)) (i+1)=rsm (fun k=>f (l.getD k default)) i+f (l.getD i default):=rfl
  rw[e3]at a
  show f (l.getD i default)≤_; grind
end
end Go.Vx
