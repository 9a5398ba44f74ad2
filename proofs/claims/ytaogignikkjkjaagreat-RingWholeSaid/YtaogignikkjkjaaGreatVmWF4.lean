/- RingWhole holds; no conditions. -/
import Derived.Test.YtaogignikkjkjaaGreatVmWF2
import Derived.Test.YtaogignikkjkjaaGreatVmWC9
set_option linter.unusedSectionVars false
set_option linter.unusedSimpArgs false
set_option linter.unusedVariables false
set_option maxRecDepth 1000000
namespace Go.Vx
open Go.Vm Go.Proofs Ieee
theorem zero_isZ:IsZ 0 0 Cp.zero:=⟨by show Is _ (0:Rat);simpa using is_zero,by show Is _ (0:Rat);simpa using is_zero⟩
theorem sub_zero' (Y:Cp):Y-Cp.zero=Y:=Cp.ext' (by show Y.re-0=Y.re;grind) (by show Y.im-0=Y.im;grind)
theorem mul00 (R:Type) (k:Nat→Nat→Option R):mulK R 0 0 0 0 k=k 0 0:=by kernel_rfl
theorem nil_of {x y r n:Int} (h:rwSize 0 x y r n=true):RwNil (fI x) (fI y) (fI r) n:=by
 obtain⟨_,hc,r1,r2,n1,n2⟩:=rwSize_iff h
 obtain⟨N,rfl⟩:∃ N:Nat,n=(N:Int):=⟨n.toNat,by omega⟩
 have bc:=smI_le hc; have hF:=fits_of hc r1 (show r≤40000 by omega)
 obtain⟨S,_⟩:=sight_of hc r1 (show r≤40000 by omega)
 have R1:(1:Rat)≤(r:Rat):=Rat.intCast_le_intCast.2 r1; have R2:(r:Rat)≤2000:=by
  have:(r:Rat)≤((1000:Int):Rat):=Rat.intCast_le_intCast.2 r2
  rw[show ((1000:Int):Rat)=1000 from rfl]at this
  grind
 obtain⟨dK,zK,dM,zM,DK,ZK,DM,ZM,z,w,zm,wm,P⟩:=plcs_of (n:=N) (by omega) (by omega) (c1:=fI x) (c2:=fI y) (r:=fI r) (R:=(r:Rat)) ⟨fI_is (by omega),fI_is (by omega)⟩ bc.1 bc.2 (fI_is (by omega)) R1 R2
 have hz0:∀ k,k<N→DK k=Cp.of (r:Rat)*z k:=fun k _=>by rw[P.eK,of_back (by grind)]
 have r0:rsm (fun _=>(0:Rat)) N=(N:Rat)*0:=rsm_const 0 N
 obtain⟨q,g,a,b,A,hq,g0,g1,g2,hl,iA,τ,_,_,dA⟩:=round_words (n:=N) (u:=fun _=>(0,0)) (d:=dK) (U:=fun _=>Cp.zero) (D:=DK) (z:=z) (ρ:=fun _=>0) (R:=(r:Rat)) (m:=0) (by omega) (by omega)
  (fun k _=>zero_isZ) (fun k hk=>(P.K k hk).iD) (fun k _=>nm_zero) (fun k _=>.inl rfl) (fun k _=>by decide +kernel) (fun k hk=>(P.K k hk).nD) R1 R2 r0 hz0
 have A0:A=Cp.zero:=by
  rw[csm_congr (g:=fun _=>Cp.zero) fun k _=>Cp.mul_zero _,csm_zero,Cp.mul_zero,Cp.mul_zero,sub_zero']at dA
  exact nm_nought (dA.mono (by grind))
 rw[A0]at iA
 have gon:∀ k,k<N→∀(R:Type) (K:Nat→Nat→Nat→Nat→Option R),gonK (fI r) (fI x) (fI y) N k K=K (dK k).1 (dK k).2 (zK k).1 (zK k).2:=fun k hk R K=>by
  have a:=P.goK k hk R fun d1 d2=>addK R (fI x) (fI y) d1 d2 fun z1 z2=>K d1 d2 z1 z2
  rw[(P.K k hk).add]at a
  exact a
 have within:∀ k,k<N→∀(R:Type) (K:Bool→Option R),WithinK R (zK k).1 (zK k).2 4787326403894837248 K=K true:=fun k hk R K=>by
  have p:=p40_ge; have iZ:=(P.K k hk).iZ; have nZ:=(P.K k hk).nZ; unfold WithinK WithinB
  rw[withinK_is iZ.1 (Rat.le_trans nZ.re (by grind)),forceB_eq]
  simp only
  rw[withinK_is iZ.2 (Rat.le_trans nZ.im (by grind)),forceB_eq]
 have sT:=sumT_of g0 g1 g2; have c49:=Nl.ab_call (cs:=[]) (sz:=4) (m:=0) (c:=0) Nl.abF49 rfl (n:=N) (d:=dK) (z:=zK) (v:=fun _=>(0,0)) (q:=q) ⟨gon,fun k hk H=>Nl.speed_nil (within k hk) H,fun k hk R K=>hq k hk R K⟩ (by omega) (by omega) (fun H=>Nl.asked_nil hF H) sT (x:=(g N).1) (y:=(g N).2) rfl hl; have c50:=Nl.ab_call (cs:=[]) (sz:=4) (m:=0) (c:=0) Nl.abF50 rfl (n:=N) (d:=dK) (z:=zK) (v:=fun _=>(0,0)) (q:=q) ⟨gon,fun k hk H=>Nl.speed_nil (within k hk) H,fun k hk R K=>by
  show mulK R 0 0 0 0 _=_
  rw[mul00]
  exact hq k hk R K⟩ (by omega) (by omega) (fun H=>Nl.asked_nil hF H) sT (x:=(g N).1) (y:=(g N).2) rfl hl
 obtain⟨e1,cw,Cv,τ',ea,ec,iC,_,_⟩:=two_pi_R (n:=N) (by omega) (by omega) (fI_is (n:=r) (by omega)) R1 R2
 have z1:Is 0 (0:Rat):=by simpa using is_zero
 obtain⟨t,Tv,et,iT,qT⟩:=mul_is z1 iC (by rw[Rat.zero_mul,abs_zero];exact p2_pos _)
 have T0:Tv=0:=rnd_zero' qT (Rat.zero_mul _)
 rw[T0]at iT
 have hmeans:=fun H=>Nl.means_nil (c1:=fI x) (c2:=fI y) (r:=fI r) (n:=N) (d:=dM) (fun k hk R K=>P.goM k hk R K) (by omega) (t:=t) (u:=t) (fun R K=>by
  rw[bindF_eq ea,forceN_eq,bindF_eq ec,bindF_eq et,bindF_eq et]) H
 obtain⟨p,iP,hP⟩:=times_is zero_isZ
 rw[Cp.mul_zero]at iP
 obtain⟨s1,s2,X,iX,dX,hX⟩:=sclK_abs iP is_pi2 nm_zero (.inl (Rat.zero_mul _)) (by rw[Rat.zero_mul,big200_eq];decide)
 have X0:X=Cp.zero:=by
  rw[Cp.mul_zero,sub_zero']at dX
  exact nm_nought (dX.mono (by grind))
 rw[X0]at iX
 have d0:Nm (Cp.zero-Cp.zero) 0:=by rw[sub_zero'];exact nm_zero
 obtain⟨d1,ed1,hn1⟩:=near_fin (P:=0) (e:=0) iA iX iT is_2m30 (by decide +kernel) (by decide +kernel) (by decide) (Rat.le_of_lt (p2_pos _)) d0 (.inl ⟨rfl,rfl⟩) (by decide +kernel)
 obtain⟨d2,ed2,hn2⟩:=near_fin (P:=0) (e:=0) iA iX iT is_2m20 (by decide +kernel) (by decide +kernel) (by decide) (Rat.le_of_lt (p2_pos _)) d0 (.inl ⟨rfl,rfl⟩) (by decide +kernel)
 refine⟨0,0,0,0,a,b,a,b,t,t,fun H=>Nl.res_nil hF S.ht H,fun H=>Nl.sqs_nil hF S.ht H,fun H=>Nl.integral_nil (fun H=>Nl.up rfl c49 H) H,fun H=>Nl.square_nil (fun H=>Nl.up rfl c50 H) H,hmeans,fun R yes no=>?_⟩
 unfold rwFin
 rw[hP,hX,hP,hX,bindF_eq ed1,hn1,cond_true,bindF_eq ed2,hn2,cond_true]
end Go.Vx
namespace Go.Proofs.YtaogignikkjkjaaGreat
theorem ringWhole_holds:Rows.RingWholeSaid:=ringWhole_of (fun hs x y r n S g=>Go.Vx.main_of g) (fun x y r n h=>Go.Vx.nil_of h)
end Go.Proofs.YtaogignikkjkjaaGreat
