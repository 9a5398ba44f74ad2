/- A part of the evaluator and of what is told of floats; no conditions. -/
import Derived.Test.YtaogignikkjkjaaGreatVmWE7
import Derived.Test.YtaogignikkjkjaaGreatVmWC1
set_option linter.unusedSectionVars false
set_option linter.unusedSimpArgs false
set_option linter.unusedVariables false
set_option maxRecDepth 1000000
namespace Go.Vx
open Go.Vm Go.Proofs Ieee
section
variable {cx cy r:Int} {S:Sight (fI cx) (fI cy) (fI r)} {hs:List Th} {n:Nat} {dK zK dM zM:Nat→Nat×Nat} {DK ZK DM ZM z w zm wm:Nat→Cp} {c:Th→Nat×Nat} {C:Th→Cp} {s:Th→Sd} {κ:Th→Cp} {v vM:Th→Nat→Nat×Nat} {V:Th→Nat→Cp} {wM:Th→Nat→Nat} {L:Th→Nat→Rat}
 (T:Dat S hs n dK zK dM zM DK ZK DM ZM z w zm wm c C s κ v vM V wM L)
include T
theorem squares_of:∃ y1 y2 Z,FlatCall Tryz.prog 11 [flowV 0 (els hs).length (els hs).length,ciV (fI cx) (fI cy) (fI r)] ⟨1,[(0,.cells (cellsOf (els hs)) 4)]⟩ (reV y1 y2 0)∧IsZ y1 y2 Z∧
  Nm (Z-Cp.of (r:Rat)*G2 hs s κ) ((r:Rat)*UH hs L n*(242*eps*361000))∧Nm (G2 hs s κ) (722725*UH hs L n):=by
 have ep:=eps_pos; have et:=eps_tiny
 obtain⟨R1,R2⟩:=Rq T
 have M0:=M_facts T; have MU:=M_sq T; have el:=els_length hs; have l6:=T.good.len6
 obtain⟨th,hth⟩:=th_of T.good.fine
 obtain⟨dv,hdv⟩:=pick2 (α:=Th) (β:=(Nat×Nat)×Cp) (P:=fun X Y=>X∈hs∧Y∈hs∧insB S X=true∧insB S Y=false) (Q:=fun X Y x=>IsZ x.1.1 x.1.2 x.2∧Rl x.2 (dXY cx cy r κ s X Y) (105*eps)∧DvOk X.el (nuH X:Int) Y.el x.1) (fun X Y ⟨hX,hY,iX,iY⟩=>by
  have DY:=T.D Y hY
  rw[iY]at DY
  obtain⟨_,_,h8,bX,_⟩:=ins_is T hX iX
  obtain⟨a,V',l,e,b,d,f⟩:=dv_of (T.good.fine X hX) (T.good.fine Y hY) R1 bX DY (ν:=nuH X) (by omega)
  refine⟨(a,V'),b,?_,f⟩
  unfold dXY
  rw[e]
  exact d)
 obtain⟨tm,htm⟩:=pickm (β:=(Nat→Nat×Nat)×(Nat×Nat)×Cp) (l:=hs) (p:=fun X x=>insB S X=true→SumT ((hs.filter fun h=>!insB S h).map fun Y=>(dv X Y).1) x.1∧QvOk X.el (nuH X:Int) (x.1 ((hs.filter fun h=>!insB S h).map fun Y=>(dv X Y).1).length) x.2.1∧IsZ x.2.1.1 x.2.1.2 x.2.2∧
   Nm (x.2.2-Fx X (C X)*lsm (dXY cx cy r κ s X) (hs.filter fun h=>!insB S h)) (114*eps*(361000*(r:Rat)*MH hs L n)*mT L n X)∧Nm x.2.2 (361000*(r:Rat)*MH hs L n*mT L n X)) (fun X hX=>by
  by_cases iX:insB S X=true
  ·obtain⟨f,q,Q,h⟩:=term_of T hdv hX iX
   exact⟨(f,q,Q),fun _=>h⟩
  ·exact⟨(fun _=>(0,0),(0,0),Cp.zero),fun h=>absurd h iX⟩)
 have hin:∀ X∈hs.filter (insB S),X∈hs∧insB S X=true:=fun X hX=>List.mem_filter.1 hX
 have rM0:0≤361000*(r:Rat)*MH hs L n:=Rat.mul_nonneg (by grind) M0.1; have MM0:=Rat.mul_nonneg M0.1 M0.1; have eB:361000*(r:Rat)*MH hs L n*MH hs L n=361000*(r:Rat)*(MH hs L n*MH hs L n):=by grind
 have bMM:=mul_mono' M0.2.1 M0.2.1 M0.1 (by decide)
 obtain⟨f,Y0,sT,iY,dY,nY⟩:=list_sum (ys:=hs.filter (insB S)) (wf:=fun X=>(tm X).2.1) (vf:=fun X=>(tm X).2.2) (bf:=fun X=>361000*(r:Rat)*MH hs L n*mT L n X) (B:=361000*(r:Rat)*MH hs L n*MH hs L n) (Nat.le_trans (List.length_filter_le _ _) l6) (fun X hX=>(htm X (hin X hX).1 (hin X hX).2).2.2.1) (fun X hX=>(htm X (hin X hX).1 (hin X hX).2).2.2.2.2) (by
   rw[lsr_mulL]
   exact Rat.mul_le_mul_of_nonneg_left (lsr_part T _) rM0) (by
   rw[eB]
   refine ft_times (by grind) MM0 ?_
   rcases M0.2.2 with h|h
   ·left;rw[h];grind
   ·right; have e:=mul_mono' h h (Rat.le_of_lt (p2_pos _)) M0.1
    rwa [← p2_add,show (-200+-200:Int)=-400 by decide]at e) (by
   rw[eB,big200_eq]
   have:=mul_mono' (show 361000*(r:Rat)≤361000*2000 by grind) bMM MM0 (by decide +kernel)
   grind)
 have iTwo:Is 4611686018427387904 (2:Rat):=is_two; have a2:(2:Rat).abs=2:=Rat.abs_of_nonneg (by decide)
 obtain⟨y1,y2,Z,iZ,dZ,hZ⟩:=sclK_abs iY iTwo nY (by
   rw[a2,eB,show 1001/1000*(361000*(r:Rat)*(MH hs L n*MH hs L n))*2=1001/500*361000*(r:Rat)*(MH hs L n*MH hs L n) by grind]
   refine ft_times (by grind) MM0 ?_
   rcases M0.2.2 with h|h
   ·left;rw[h];grind
   ·right; have e:=mul_mono' h h (Rat.le_of_lt (p2_pos _)) M0.1
    rwa [← p2_add,show (-200+-200:Int)=-400 by decide]at e) (by
   rw[a2,eB,big200_eq]
   have:=mul_mono' (show 361000*(r:Rat)≤361000*2000 by grind) bMM MM0 (by decide +kernel)
   grind)
 let D:SqD:=⟨fun x=>insB S (th x),fun x=>(nuH (th x):Int),fun x y=>(dv (th x) (th y)).1,fun x=>(tm (th x)).2.1,fun x=>(tm (th x)).1⟩
 have oz:∀ X∈hs,D.oZ X.el (els hs) (els hs).length=(hs.filter fun h=>!insB S h).map fun Y=>(dv X Y).1:=fun X hX=>by
  show (((els hs).take (els hs).length).filter fun y=>!insB S (th y)).map (fun y=>(dv (th X.el) (th y)).1)=_
  rw[List.take_length,hth X hX]
  unfold els
  rw[List.filter_map,List.map_map]
  have e1:hs.filter ((fun y=>!insB S (th y)) ∘ Th.el)=hs.filter fun h=>!insB S h:=List.filter_congr fun h hm=>by
   show (!insB S (th h.el))=_
   rw[hth h hm]
  rw[e1]
  exact List.map_congr_left fun Y hY=>by
   show (dv X (th Y.el)).1=_
   rw[hth Y (List.mem_filter.1 hY).1]
 have lz:D.lZ (els hs) (els hs).length=(hs.filter (insB S)).map fun X=>(tm X).2.1:=by
  show (((els hs).take (els hs).length).filter fun y=>insB S (th y)).map (fun y=>(tm (th y)).2.1)=_
  rw[List.take_length]
  unfold els
  rw[List.filter_map,List.map_map]
  have e1:hs.filter ((fun y=>insB S (th y)) ∘ Th.el)=hs.filter (insB S):=List.filter_congr fun h hm=>by
   show insB S (th h.el)=_
   rw[hth h hm]
  rw[e1]
  exact List.map_congr_left fun Y hY=>by
   show (tm (th Y.el)).2.1=_
   rw[hth Y (List.mem_filter.1 hY).1]
 have mem:∀ x∈els hs,∃ h∈hs,x=h.el∧th x=h:=fun x hx=>by
  unfold els at hx
  obtain⟨h,hm,rfl⟩:=List.mem_map.1 hx
  exact⟨h,hm,rfl,hth h hm⟩
 have hD:SqOk D (fI cx) (fI cy) (fI r) (els hs):=by
  refine⟨fun x hx=>?_,fun x hx hi=>?_,fun x hx hi y hy hj=>?_,fun x hx hi=>?_,fun x hx hi=>?_⟩
  ·obtain⟨h,hm,rfl,e⟩:=mem x hx
   show WiOk _ _ _ (insB S (th h.el)) _
   rw[e]
   exact wi_ok T.good hm fun k=>⟨_,_,(src_word (T.D h hm) k).1⟩
  ·obtain⟨h,hm,rfl,e⟩:=mem x hx
   have hi':insB S (th h.el)=true:=hi
   rw[e]at hi'
   show floatToIntVal .f64 (fI h.p) .i64=some (nuH (th h.el):Int)∧(0:Int)≤(nuH (th h.el):Int)∧(nuH (th h.el):Int)≤1000
   rw[e]
   obtain⟨_,_,h8,_,D⟩:=ins_is T hm hi'
   have hp:=(T.good.fine h hm).pow; have ti:floatToIntVal .f64 (fI h.p) .i64=some h.p:=toInt_is (fI_is (by omega)) (by omega)
   refine⟨?_,by omega,by omega⟩
   rw[ti]
   congr 1
   by_cases k:h.kind=2
   ·rw[p_zero T.good hm k]
    unfold nuH
    rw[if_pos k];rfl
   ·unfold nuH
    rw[if_neg k]
    have ib:insB S h=true:=hi'; unfold insB at ib; rcases kinds T.good hm with k' | k' | ⟨k',m,m1,m8,hp'⟩|⟨k',_⟩
    ·rw[k']at ib;cases ib
    ·exact absurd k' k
    ·rw[hp'];rfl
    ·rw[k']at ib;cases ib
  ·obtain⟨X,hX,rfl,e⟩:=mem x hx
   obtain⟨Y,hY,rfl,e'⟩:=mem y hy
   have hi':insB S (th X.el)=true:=hi; have hj':insB S (th Y.el)=false:=hj
   rw[e]at hi'
   rw[e']at hj'
   show DvOk X.el (nuH (th X.el):Int) Y.el (dv (th X.el) (th Y.el)).1
   rw[e,e']
   exact(hdv X Y ⟨hX,hY,hi',hj'⟩).2.2
  ·obtain⟨X,hX,rfl,e⟩:=mem x hx
   have hi':insB S (th X.el)=true:=hi
   rw[e]at hi'
   rw[oz X hX]
   show SumT _ (tm (th X.el)).1
   rw[e]
   exact(htm X hX hi').1
  ·obtain⟨X,hX,rfl,e⟩:=mem x hx
   have hi':insB S (th X.el)=true:=hi
   rw[e]at hi'
   rw[oz X hX]
   show QvOk X.el (nuH (th X.el):Int) ((tm (th X.el)).1 _) (tm (th X.el)).2.1
   rw[e]
   exact(htm X hX hi').2.1
 have hcall:=squares_call (c:=(els hs).length) (sz:=4) (elsAt_cells (els hs)) (by omega) hD (row_cells _).2.1 (clean_els T true) (f:=f) (by rw[lz];exact sT) (u:=y1) (v:=y2) (by rw[lz];exact hZ) (fun R k=>FiniteK_yes iZ.1 iZ.2 k); have k1:Nm (lsm (fun X=>(tm X).2.2) (hs.filter (insB S))-lsm (fun X=>Fx X (C X)*lsm (dXY cx cy r κ s X) (hs.filter fun h=>!insB S h)) (hs.filter (insB S))) (114*eps*(361000*(r:Rat)*MH hs L n)*MH hs L n):=by
  refine(lsm_sub_nm fun X hX=>(htm X (hin X hX).1 (hin X hX).2).2.2.2.1).mono ?_
  rw[lsr_mulL]
  exact Rat.mul_le_mul_of_nonneg_left (lsr_part T _) (Rat.mul_nonneg (by grind) rM0)
 have k2:=dY.tri k1; have k3:Nm (Cp.of 2*(Y0-lsm (fun X=>Fx X (C X)*lsm (dXY cx cy r κ s X) (hs.filter fun h=>!insB S h)) (hs.filter (insB S)))) (2*(6*eps*(361000*(r:Rat)*MH hs L n*MH hs L n)+114*eps*(361000*(r:Rat)*MH hs L n)*MH hs L n)):=(nm_of (by rw[a2];exact Rat.le_refl)).mul k2; have k4:=dZ.add k3
 rw[Cp.mul_sub,← G2_is T]at k4
 have e4:Z-Cp.of 2*Y0+(Cp.of 2*Y0-Cp.of (r:Rat)*G2 hs s κ)=Z-Cp.of (r:Rat)*G2 hs s κ:=by
  refine Cp.ext' ?_ ?_
  ·simp only[Cp.add_re,Cp.sub_re];grind
  ·simp only[Cp.add_im,Cp.sub_im];grind
 rw[e4,a2]at k4
 have rU:=Rat.mul_le_mul_of_nonneg_left MU (show 0≤(r:Rat) by grind); have rMM:=Rat.mul_nonneg (show 0≤(r:Rat) by grind) MM0; have erU:=Rat.mul_le_mul_of_nonneg_left rU (Rat.le_of_lt ep); have erMM:=Rat.mul_nonneg (Rat.le_of_lt ep) rMM
 refine⟨y1,y2,Z,hcall,iZ,k4.mono ?_,?_⟩
 ·have q1:eps/2*(1001/1000*(361000*(r:Rat)*MH hs L n*MH hs L n)*2)=1001/1000*361000*(eps*((r:Rat)*(MH hs L n*MH hs L n))):=by grind
  have q2:2*(6*eps*(361000*(r:Rat)*MH hs L n*MH hs L n)+114*eps*(361000*(r:Rat)*MH hs L n)*MH hs L n)=240*361000*(eps*((r:Rat)*(MH hs L n*MH hs L n))):=by grind
  have q3:(r:Rat)*UH hs L n*(242*eps*361000)=242*361000*(eps*((r:Rat)*UH hs L n)):=by grind
  rw[q1,q2,q3]
  clear dY k1 k2 k3 k4 nY dZ; grind
 ·have n1:Nm (lsm (fun X=>Fx X (C X)*lsm (dXY cx cy r κ s X) (hs.filter fun h=>!insB S h)) (hs.filter (insB S))) ((6*eps*(361000*(r:Rat)*MH hs L n*MH hs L n)+114*eps*(361000*(r:Rat)*MH hs L n)*MH hs L n)+1001/1000*(361000*(r:Rat)*MH hs L n*MH hs L n)):=k2.comm.near nY; have n2:Nm (Cp.of (r:Rat)*G2 hs s κ) (2*((6*eps*(361000*(r:Rat)*MH hs L n*MH hs L n)+114*eps*(361000*(r:Rat)*MH hs L n)*MH hs L n)+1001/1000*(361000*(r:Rat)*MH hs L n*MH hs L n))):=by
   rw[G2_is T]
   exact(nm_of (by rw[a2];exact Rat.le_refl)).mul n1
  have eerMM:=Rat.mul_le_mul_of_nonneg_right et rMM; refine nm_div (n:=(r:Rat)) (by grind) (n2.mono ?_) |>.mono (show 722725*(MH hs L n*MH hs L n)≤_ from ?_)
  ·have q2:2*((6*eps*(361000*(r:Rat)*MH hs L n*MH hs L n)+114*eps*(361000*(r:Rat)*MH hs L n)*MH hs L n)+1001/1000*(361000*(r:Rat)*MH hs L n*MH hs L n))=240*361000*(eps*((r:Rat)*(MH hs L n*MH hs L n)))+1001/500*361000*((r:Rat)*(MH hs L n*MH hs L n)):=by grind
   rw[q2,show (r:Rat)*(722725*(MH hs L n*MH hs L n))=722725*((r:Rat)*(MH hs L n*MH hs L n)) by grind]
   clear dY k1 k2 k3 k4 nY dZ n1 n2; grind
  ·grind
end
theorem both_near {a1 a2 x1 x2 t c:Nat} {A X G:Cp} {T C P R M d1 d2 g:Rat} (iA:IsZ a1 a2 A) (iX:IsZ x1 x2 X) (iT:Is t T) (iC:Is c C) (C0:1/10000000000≤C) (C1:C≤1) (hT:T≤100000000000000000000000000000000000000000000)
  (R1:1≤R) (P6:6≤P) (hA:Nm (A-Cp.of P*(Cp.I*(Cp.of R*G))) (P*(R*M)*d1)) (hX:Nm (X-Cp.of P*(Cp.I*(Cp.of R*G))) (P*(R*M)*d2)) (hG:Nm G (g*M)) (M0:0≤M) (fM:M=0∨(2:Rat)^(-390:Int)≤M)
  (h1:1/1000000000000≤d1) (h2:0≤d2) {m:Rat} (m0:0≤m) (hm:P*(R*M)≤m*T) (hd:301/100*(d1+d2)*m≤C) (T0:0≤T):
  ∃ d,fbF .mul c t=some d∧∀(R:Type) (k:Bool→Option R),nearK R a1 a2 x1 x2 d k=k true:=by
 have RM:=Rat.mul_nonneg (show 0≤R by grind) M0; have PRM:=Rat.mul_nonneg (show 0≤P by grind) RM; have k:=hA.tri hX.comm; refine near_fin (P:=0) iA iX iT iC C0 C1 T0 ?_ k ?_ ?_
 ·have:=p2_le (show (150:Int)≤290 by decide)
  refine Rat.le_trans hT (Rat.le_trans ?_ this)
  rw[show (150:Int)=((150:Nat):Int) by rfl,p2_nat]
  decide +kernel
 ·rcases fM with h|h
  ·left; subst h; have e1:∀ x:Rat,P*(R*0)*x=0:=fun x=>by grind
   have g0:G=Cp.zero:=nm_nought (hG.mono (by grind))
   rw[e1,g0]at hA hX
   have z0:Cp.of P*(Cp.I*(Cp.of R*Cp.zero))=Cp.zero:=by rw[Cp.mul_zero,Cp.mul_zero,Cp.mul_zero]
   rw[z0]at hA hX
   have sz:∀ Y:Cp,Y-Cp.zero=Y:=fun Y=>Cp.ext' (by show Y.re-0=Y.re;grind) (by show Y.im-0=Y.im;grind)
   rw[sz]at hA hX
   exact⟨nm_nought hA,nm_nought hX⟩
  ·right; have a:=mul_mono' R1 h (Rat.le_of_lt (p2_pos _)) (show 0≤R by grind); have b:=mul_mono' P6 a (by have:=p2_pos (-390);grind) (show 0≤P by grind); have c:=mul_mono' b h1 (by decide +kernel) PRM; have q:=p2_le (show (-800:Int)≤-450 by decide); have e:(2:Rat)^(-390:Int)=(2:Rat)^(-450:Int)*(2:Rat)^(60:Int):=by rw[← p2_add];rfl
   rw[e,show (2:Rat)^(60:Int)=1152921504606846976 by rw[show (60:Int)=((60:Nat):Int) by rfl,p2_nat];rfl]at c
   have p:=p2_pos (-450); have s:=Rat.mul_nonneg PRM h2; generalize (2:Rat)^(-450:Int)=X at *
   clear hA hX k hG; grind
 ·have a:=Rat.mul_le_mul_of_nonneg_left hm (show 0≤301/100*(d1+d2) by grind); have b:=Rat.mul_le_mul_of_nonneg_right hd T0; clear hA hX k hG; grind
section
variable {cx cy r n:Int} {S:Sight (fI cx) (fI cy) (fI r)} {hs:List Th}
theorem main_of (g:Vm.Good S hs n):RwMain (els hs) (fI cx) (fI cy) (fI r) n:=by
 have ep:=eps_pos; have et:=eps_tiny
 obtain⟨N,rfl⟩:∃ N:Nat,n=(N:Int):=⟨n.toNat,by have:=g.n1;omega⟩
 obtain⟨dK,zK,dM,zM,DK,ZK,DM,ZM,z,w,zm,wm,c,C,s,κ,v,vM,V,wM,L,T⟩:=dat_of g
 obtain⟨R1,R2⟩:=Rq T
 have M0:=M_facts T; have U0:=U_facts T
 obtain⟨a1,a2,A,hc12,iA,dA⟩:=integral_at T
 obtain⟨b1,b2,B,hc13,iB,dB⟩:=square_at T
 obtain⟨t,u,At,Bu,hc14,iT,iU,loA,loB,hiA,hiB⟩:=means_at T
 obtain⟨z1,z2,Z,hc10,iZ,dZ,nG1⟩:=residues_of T
 obtain⟨y1,y2,Y,hc11,iY,dY,nG2⟩:=squares_of T
 have fM:MH hs L N=0∨(2:Rat)^(-390:Int)≤MH hs L N:=by
  rcases M0.2.2 with h|h
  ·exact .inl h
  ·exact .inr (Rat.le_trans (p2_le (by decide)) h)
 have ft:∀{x:Rat},(x=0∨(2:Rat)^(-390:Int)≤x)→Fit x:=fun h=>by
  rcases h with h|h
  ·exact .inl h
  ·exact .inr (Rat.le_trans (p2_le (by decide)) h)
 obtain⟨p1,p2,X,iX,dX,hX,_⟩:=res_near iZ R1 R2 M0.1 (ε:=3600*eps) (g:=600) (by grind) (by grind) (by decide) (by decide) (ft fM) (by have:=M0.2.1;grind) nG1 dZ
 obtain⟨q1,q2,W,iW,dW,hW,_⟩:=res_near iY R1 R2 U0.1 (ε:=242*eps*361000) (g:=722725) (by grind) (by grind) (by decide) (by decide) (ft U0.2.2) (by have:=U0.2.1;grind) nG2 dY
 have P6:=pi2_ge; have cA0:0≤At:=by
  have:=Rat.mul_nonneg (show 0≤pi2V by grind) (Rat.mul_nonneg (show 0≤(r:Rat) by grind) M0.1)
  grind
 have cB0:0≤Bu:=by
  have:=Rat.mul_nonneg (show 0≤pi2V by grind) (Rat.mul_nonneg (show 0≤(r:Rat) by grind) U0.1)
  grind
 have e2:eps≤1/2251799813685248:=by rw[eps_lit];exact Rat.le_refl
 obtain⟨d1,ed1,hn1⟩:=both_near iA iX iT is_2m30 (by decide +kernel) (by decide +kernel) (by grind) R1 P6 dA dX nG1 M0.1 fM (by decide +kernel) (by grind) (m:=10171/10000) (by decide +kernel) loA (by grind) cA0
 obtain⟨d2,ed2,hn2⟩:=both_near iB iW iU is_2m20 (by decide +kernel) (by decide +kernel) hiB R1 P6 dB dW nG2 U0.1 U0.2.2 (by decide +kernel) (by grind) (m:=10344/10000) (by decide +kernel) loB (by grind) cB0
 refine⟨z1,z2,y1,y2,a1,a2,b1,b2,t,u,hc10,hc11,hc12,hc13,hc14,fun R yes no=>?_⟩
 unfold rwFin
 rw[hX,hW,bindF_eq ed1,hn1,cond_true,bindF_eq ed2,hn2,cond_true]
end
end Go.Vx
namespace Go.Vm.Nl
open Go.Proofs Go.Vm
def flowV (o n c:Nat):Value:=.agg ⟨[nilS]⟩
def abD (m c c1 c2 r:Nat):Objs:=[(2,.cells [.complex .f64 c1 c2,.float .f64 r] 0),(1,.cells [nilS] 0)]
section
variable (f:Nat) (fi:Fi) (R:Type) (st:St) (ap:Ap) (pl:KFFC) (ad mu:KCCC) (ti of:KCC) (g:KSpd) (cs ts:List Value) (sz m c n k c1 c2 r pi:Nat) (K:Ex→Env→Objs→Option R)
def abRd:Option R:=
  bif decide ((k:Int)<n) then
   forceN (floatOfInt .f64 (k:Int)) fun a=>bindF (fbF .mul 4611686018427387904 a) fun a=>bindF (fbF .mul a pi) fun a=>forceN (floatOfInt .f64 (n:Int)) fun b=>bindF (fbF .quo a b) fun t=>
   pl R r t fun d1 d2=>ad R c1 c2 d1 d2 fun z1 z2=>g R (flowV 0 m c) z1 z2 ⟨4,abD m c c1 c2 r++[(3,.cells ts 0)]⟩ fun x y=>
   of R x y fun u1 u2=>ti R d1 d2 fun t1 t2=>mu R u1 u2 t1 t2 fun q1 q2=>
   bif decide (0≤(k:Int)) && decide ((k:Int)<n) && true then
    st R ts (0+k*1) [.complex .f64 q1 q2] fun ts=>fi R (IntKind.i64.wrap (k+1)) fun i=>K .normal (abE f m c n pi i) (abD m c c1 c2 r++[(3,.cells ts 0)])
   else none
  else K (.exit 0) (abE f m c n pi k) (abD m c c1 c2 r++[(3,.cells ts 0)])
theorem ab_round49:evTop (abC 49 fi st ap pl ad mu ti of [(61,sSpd g)]) 60 noL 1 85 abA (abE 49 m c n pi k) ⟨4,abD m c c1 c2 r++[(3,.cells ts 0)]⟩ (takeC [39,38,13,5,4,2,11,3] [2,1,3] K) =
  abRd 49 fi R st pl ad mu ti of g ts m c n k c1 c2 r pi K:=by kernel_rfl
theorem ab_round50:evTop (abC 50 fi st ap pl ad mu ti of [(61,sSpd g)]) 60 noL 1 85 abA (abE 50 m c n pi k) ⟨4,abD m c c1 c2 r++[(3,.cells ts 0)]⟩ (takeC [39,38,13,5,4,2,11,3] [2,1,3] K) =
  abRd 50 fi R st pl ad mu ti of g ts m c n k c1 c2 r pi K:=by kernel_rfl
end
section
variable (f:Nat) (L:Hand) (fi:Fi) (R:Type) (st:St) (ap:Ap) (pl:KFFC) (ad mu:KCCC) (ti of:KCC) (g:KSpd) (ga gs:HT) (sc:KCFC) (cs ts:List Value) (sz m c n k c1 c2 r x y:Nat) (K:Option (TypeId×Value)→Env→Objs→Option R)
variable (fn:KCB)
theorem ab_top49:spine (abT 49 fi st ap pl ad mu ti of sc fn [(85,saysV (.int .i64 0) ga),(44,saysV (.complex .f64 x y) gs)]) 1 85 (evTop (abT 49 fi st ap pl ad mu ti of sc fn [(85,saysV (.int .i64 0) ga),(44,saysV (.complex .f64 x y) gs)]) 60 (slimL [39,38,13,5,4,2,11,3] [2,1,3] L) 1 85) (finK K) (codeOf 48) (enumE 0 [flowV 0 m c,ciV c1 c2 r,.int .i64 n,abFn 49]) ⟨1,[]⟩ =
  ga R [flowV 0 m c,ciV c1 c2 r] ⟨3,abD m c c1 c2 r⟩ (bif decide ((n:Int)<1) then K none [(8,.complex .f64 0 0),(9,.int .i64 2)] [] else bif decide ((n:Int) > 16384) then K none [(8,.complex .f64 0 0),(9,.int .i64 2)] [] else
   bif decide (0≤(n:Int)) && decide ((n:Int)≤n) && decide ((n:Int)≤4294967296) && decide ((16:Int)*n≤281474976710656) && !Nat.beq ((n:Int).toNat*1) 0 then
    L R 1 85 abA (abE 49 m c n 4614256656552045848 0) ⟨4,abD m c c1 c2 r++[(3,.cells (noughts n) 0)]⟩
     (leaveE 0 (thenE (fun en H=>evTop (abT 49 fi st ap pl ad mu ti of sc fn [(85,saysV (.int .i64 0) ga),(44,saysV (.complex .f64 x y) gs)]) 60 (slimL [39,38,13,5,4,2,11,3] [2,1,3] L) 1 85 (seqN 7 (codeOf 48)) en H (defK 82 (abV n) (finK K))) (defK 82 (abV n) (finK K))))
   else none):=by kernel_rfl
theorem ab_end49 (pi:Nat):evTop (abT 49 fi st ap pl ad mu ti of sc fn [(85,saysV (.int .i64 0) ga),(44,saysV (.complex .f64 x y) gs)]) 60 L 1 85 (seqN 7 (codeOf 48)) (abE 49 m c n pi k) ⟨4,abD m c c1 c2 r++[(3,.cells ts 0)]⟩ (defK 82 (abV n) (finK K)) =
  gs R [abV n] ⟨4,abD m c c1 c2 r++[(3,.cells ts 0)]⟩ (bindF (fbF .mul 4611686018427387904 pi) fun a=>forceN (floatOfInt .f64 (n:Int)) fun b=>bindF (fbF .quo a b) fun t=>sc R x y t fun u v=>fn R u v fun t=>
   bif t then K (some (82,abV n)) [(8,.complex .f64 u v),(9,.int .i64 0)] [(3,.cells ts 0)] else K (some (82,abV n)) [(8,.complex .f64 0 0),(9,.int .i64 6)] [(3,.cells ts 0)]):=by kernel_rfl
theorem ab_top50:spine (abT 50 fi st ap pl ad mu ti of sc fn [(85,saysV (.int .i64 0) ga),(44,saysV (.complex .f64 x y) gs)]) 1 85 (evTop (abT 50 fi st ap pl ad mu ti of sc fn [(85,saysV (.int .i64 0) ga),(44,saysV (.complex .f64 x y) gs)]) 60 (slimL [39,38,13,5,4,2,11,3] [2,1,3] L) 1 85) (finK K) (codeOf 48) (enumE 0 [flowV 0 m c,ciV c1 c2 r,.int .i64 n,abFn 50]) ⟨1,[]⟩ =
  ga R [flowV 0 m c,ciV c1 c2 r] ⟨3,abD m c c1 c2 r⟩ (bif decide ((n:Int)<1) then K none [(8,.complex .f64 0 0),(9,.int .i64 2)] [] else bif decide ((n:Int) > 16384) then K none [(8,.complex .f64 0 0),(9,.int .i64 2)] [] else
   bif decide (0≤(n:Int)) && decide ((n:Int)≤n) && decide ((n:Int)≤4294967296) && decide ((16:Int)*n≤281474976710656) && !Nat.beq ((n:Int).toNat*1) 0 then
    L R 1 85 abA (abE 50 m c n 4614256656552045848 0) ⟨4,abD m c c1 c2 r++[(3,.cells (noughts n) 0)]⟩
     (leaveE 0 (thenE (fun en H=>evTop (abT 50 fi st ap pl ad mu ti of sc fn [(85,saysV (.int .i64 0) ga),(44,saysV (.complex .f64 x y) gs)]) 60 (slimL [39,38,13,5,4,2,11,3] [2,1,3] L) 1 85 (seqN 7 (codeOf 48)) en H (defK 82 (abV n) (finK K))) (defK 82 (abV n) (finK K))))
   else none):=by kernel_rfl
theorem ab_end50 (pi:Nat):evTop (abT 50 fi st ap pl ad mu ti of sc fn [(85,saysV (.int .i64 0) ga),(44,saysV (.complex .f64 x y) gs)]) 60 L 1 85 (seqN 7 (codeOf 48)) (abE 50 m c n pi k) ⟨4,abD m c c1 c2 r++[(3,.cells ts 0)]⟩ (defK 82 (abV n) (finK K)) =
  gs R [abV n] ⟨4,abD m c c1 c2 r++[(3,.cells ts 0)]⟩ (bindF (fbF .mul 4611686018427387904 pi) fun a=>forceN (floatOfInt .f64 (n:Int)) fun b=>bindF (fbF .quo a b) fun t=>sc R x y t fun u v=>fn R u v fun t=>
   bif t then K (some (82,abV n)) [(8,.complex .f64 u v),(9,.int .i64 0)] [(3,.cells ts 0)] else K (some (82,abV n)) [(8,.complex .f64 0 0),(9,.int .i64 6)] [(3,.cells ts 0)]):=by kernel_rfl
end
structure AbF (f:Nat) (of:KCC):Prop where
 ok:SumOk Tryz.prog f (sCC of)
 has:Has Tryz.prog f
 rd:∀(fi:Fi) (R:Type) (st:St) (ap:Ap) (pl:KFFC) (ad mu:KCCC) (ti of:KCC) (g:KSpd) (cs ts:List Value) (sz m c n k c1 c2 r pi:Nat) (K:Ex→Env→Objs→Option R),
  evTop (abC f fi st ap pl ad mu ti of [(61,sSpd g)]) 60 noL 1 85 abA (abE f m c n pi k) ⟨4,abD m c c1 c2 r++[(3,.cells ts 0)]⟩ (takeC [39,38,13,5,4,2,11,3] [2,1,3] K)=abRd f fi R st pl ad mu ti of g ts m c n k c1 c2 r pi K
 top:∀(L:Hand) (fi:Fi) (R:Type) (st:St) (ap:Ap) (pl:KFFC) (ad mu:KCCC) (ti of:KCC) (ga gs:HT) (sc:KCFC) (cs:List Value) (sz m c n c1 c2 r x y:Nat) (K:Option (TypeId×Value)→Env→Objs→Option R) (fn:KCB),
  spine (abT f fi st ap pl ad mu ti of sc fn [(85,saysV (.int .i64 0) ga),(44,saysV (.complex .f64 x y) gs)]) 1 85 (evTop (abT f fi st ap pl ad mu ti of sc fn [(85,saysV (.int .i64 0) ga),(44,saysV (.complex .f64 x y) gs)]) 60 (slimL [39,38,13,5,4,2,11,3] [2,1,3] L) 1 85) (finK K) (codeOf 48) (enumE 0 [flowV 0 m c,ciV c1 c2 r,.int .i64 n,abFn f]) ⟨1,[]⟩ =
  ga R [flowV 0 m c,ciV c1 c2 r] ⟨3,abD m c c1 c2 r⟩ (bif decide ((n:Int)<1) then K none [(8,.complex .f64 0 0),(9,.int .i64 2)] [] else bif decide ((n:Int) > 16384) then K none [(8,.complex .f64 0 0),(9,.int .i64 2)] [] else
   bif decide (0≤(n:Int)) && decide ((n:Int)≤n) && decide ((n:Int)≤4294967296) && decide ((16:Int)*n≤281474976710656) && !Nat.beq ((n:Int).toNat*1) 0 then
    L R 1 85 abA (abE f m c n 4614256656552045848 0) ⟨4,abD m c c1 c2 r++[(3,.cells (noughts n) 0)]⟩
     (leaveE 0 (thenE (fun en H=>evTop (abT f fi st ap pl ad mu ti of sc fn [(85,saysV (.int .i64 0) ga),(44,saysV (.complex .f64 x y) gs)]) 60 (slimL [39,38,13,5,4,2,11,3] [2,1,3] L) 1 85 (seqN 7 (codeOf 48)) en H (defK 82 (abV n) (finK K))) (defK 82 (abV n) (finK K))))
   else none)
 fin:∀(L:Hand) (fi:Fi) (R:Type) (st:St) (ap:Ap) (pl:KFFC) (ad mu:KCCC) (ti of:KCC) (ga gs:HT) (sc:KCFC) (cs ts:List Value) (sz m c n k c1 c2 r x y:Nat) (K:Option (TypeId×Value)→Env→Objs→Option R) (fn:KCB) (pi:Nat),
  evTop (abT f fi st ap pl ad mu ti of sc fn [(85,saysV (.int .i64 0) ga),(44,saysV (.complex .f64 x y) gs)]) 60 L 1 85 (seqN 7 (codeOf 48)) (abE f m c n pi k) ⟨4,abD m c c1 c2 r++[(3,.cells ts 0)]⟩ (defK 82 (abV n) (finK K)) =
  gs R [abV n] ⟨4,abD m c c1 c2 r++[(3,.cells ts 0)]⟩ (bindF (fbF .mul 4611686018427387904 pi) fun a=>forceN (floatOfInt .f64 (n:Int)) fun b=>bindF (fbF .quo a b) fun t=>sc R x y t fun u v=>fn R u v fun t=>
   bif t then K (some (82,abV n)) [(8,.complex .f64 u v),(9,.int .i64 0)] [(3,.cells ts 0)] else K (some (82,abV n)) [(8,.complex .f64 0 0),(9,.int .i64 6)] [(3,.cells ts 0)])
theorem abF49:AbF 49 idK:=⟨k49s,h49s,fun fi R st ap pl ad mu ti of g cs ts sz m c n k c1 c2 r pi K=>ab_round49 fi R st ap pl ad mu ti of g ts m c n k c1 c2 r pi K,fun L fi R st ap pl ad mu ti of ga gs sc cs sz m c n c1 c2 r x y K fn=>ab_top49 L fi R st ap pl ad mu ti of ga gs sc m c n c1 c2 r x y K fn,
 fun L fi R st ap pl ad mu ti of ga gs sc cs ts sz m c n k c1 c2 r x y K fn pi=>ab_end49 L fi R st ap pl ad mu ti of ga gs sc ts m c n k c1 c2 r x y K fn pi⟩
theorem abF50:AbF 50 sqK:=⟨k50s,h50s,fun fi R st ap pl ad mu ti of g cs ts sz m c n k c1 c2 r pi K=>ab_round50 fi R st ap pl ad mu ti of g ts m c n k c1 c2 r pi K,fun L fi R st ap pl ad mu ti of ga gs sc cs sz m c n c1 c2 r x y K fn=>ab_top50 L fi R st ap pl ad mu ti of ga gs sc m c n c1 c2 r x y K fn,
 fun L fi R st ap pl ad mu ti of ga gs sc cs ts sz m c n k c1 c2 r x y K fn pi=>ab_end50 L fi R st ap pl ad mu ti of ga gs sc ts m c n k c1 c2 r x y K fn pi⟩
structure Abt (of:KCC) (cs:List Value) (sz m c c1 c2 r n:Nat) (d z v q:Nat→Nat×Nat):Prop where
 gone:∀ k,k<n→∀(R:Type) (K:Nat→Nat→Nat→Nat→Option R),gonK r c1 c2 n k K=K (d k).1 (d k).2 (z k).1 (z k).2
 spd:∀ k,k<n→∀ H,FlatCall Tryz.prog 61 [flowV 0 m c,.complex .f64 (z k).1 (z k).2] H (.tuple ⟨[.complex .f64 (v k).1 (v k).2,.int .i64 0]⟩)
 term:∀ k,k<n→∀(R:Type) (K:Nat→Nat→Option R),(of R (v k).1 (v k).2 fun u1 u2=>timesK R (d k).1 (d k).2 fun t1 t2=>mulK R u1 u2 t1 t2 K)=K (q k).1 (q k).2
noncomputable def abR (f:Nat) (of:KCC) (p:Nat×Nat):Cx:=abC f fiReal rSt (rAp Tryz.prog) plaK addK mulK timesK of [(61,sSpd (spSay Tryz.prog p))]
theorem abR_ok {f:Nat} {of:KCC} (hf:AbF f of) (p:Nat×Nat):(abR f of p).Ok:=
 cxM_ok no_meth (.cons k27p h27p (.cons k84 h84 (.cons k22 h22 (.cons k40 h40 (.cons hf.ok hf.has .nil))))) no_ext (.cons (spSay_ok p) h61s .nil) .nil (mmOf_ok .nil)
noncomputable def abS (f:Nat) (of:KCC) (x y:Nat):Cx:=abT f fiReal rSt (rAp Tryz.prog) plaK addK mulK timesK of sclK FiniteK [(85,saysV (.int .i64 0) (saysR Tryz.prog 85 (.int .i64 0))),(44,saysV (.complex .f64 x y) (saysR Tryz.prog 44 (.complex .f64 x y)))]
theorem abS_ok {f:Nat} {of:KCC} (hf:AbF f of) (x y:Nat):(abS f of x y).Ok:=
 cxM_ok no_meth (.cons k27p h27p (.cons k84 h84 (.cons k22 h22 (.cons k40 h40 (.cons hf.ok hf.has (.cons k39 h39 (.cons k93 h93 .nil))))))) no_ext (.cons (says_ok rfl) h85s (.cons (says_ok rfl) h155 .nil)) .nil (mmOf_ok .nil)
section
variable {f:Nat} {of:KCC} {cs:List Value} {sz m c c1 c2 r n:Nat} {d z v q:Nat→Nat×Nat}
def abH (cs:List Value) (sz m c c1 c2 r n:Nat) (q:Nat→Nat×Nat) (k:Nat):AH:=⟨4,abD m c c1 c2 r++[(3,.cells (fil q n k) 0)]⟩
theorem ab_step (hf:AbF f of) (hcs:inns 0 cs=true) (h:Abt of cs sz m c c1 c2 r n d z v q) (hn:n<100000) {k:Nat} (hk:k<n):
  BaseOk Tryz.prog 1 85 (abH cs sz m c c1 c2 r n q 0) (abE f m c n piW k) (abH cs sz m c c1 c2 r n q k) .normal (abE f m c n piW (k+1:Nat)) (abH cs sz m c c1 c2 r n q (k+1)) (fun Q a w=>abA.wp Tryz.prog Q a w):=by
 have hs:FlatCall Tryz.prog 61 [flowV 0 m c,.complex .f64 (z k).1 (z k).2] (abH cs sz m c c1 c2 r n q k) (.tuple ⟨[.complex .f64 (v k).1 (v k).2,.int .i64 0]⟩):=h.spd k hk _; exact round_told (C:=abR f of (v k)) (H0:=abH cs sz m c c1 c2 r n q 0) (e:=abE f m c n piW k) (H:=abH cs sz m c c1 c2 r n q k) (n:=60) (ts:=[39,38,13,5,4,2,11,3]) (bo:=[2,1,3]) (bs:=[]) (A:=abD m c c1 c2 r++[(3,.cells (fil q n (k+1)) 0)]) (B:=[]) (D:=abD m c c1 c2 r++[(3,.cells (fil q n 0) 0)]) (e1:=abE f m c n piW (k+1:Nat)) (O1:=abD m c c1 c2 r++[(3,.cells (fil q n (k+1)) 0)]) (abR_ok hf _) zm_ok abA_loops
  (by
    unfold abR
    refine(hf.rd fiReal _ _ _ _ _ _ _ _ _ cs (fil q n k) sz m c n k c1 c2 r piW _).trans ?_
    unfold abRd
    rw[decide_eq_true (show (k:Int)<n by omega),cond_true]
    have g:=h.gone k hk (Ex×Env×Objs); unfold gonK at g
    refine(g _).trans ?_
    refine(spSay_eq hs).trans ?_
    have t:=h.term k hk (Ex×Env×Objs)
    refine(t _).trans ?_
    rw[idx_ok,cond_true]
    unfold rSt
    rw[ble_eq_of (by rw[fil_len q (by omega)];simp;omega),cond_true,fil_step q hk]
    show fiReal (Ex×Env×Objs) _ _=_
    rw[fiReal_fair,wrap_up (by omega)]) rfl
  (by
    show renOs _ ((2,.cells [.complex .f64 c1 c2,.float .f64 r] 0)::(1,.cells [nilS] 0)::[(3,.cells (fil q n (k+1)) 0)])=_; simp only[renOs,renO,renL,renV]
    rw[rens_flat (fil_flat q n (k+1))]
    rfl) rfl rfl rfl rfl rfl
theorem ab_last (hf:AbF f of) (hn:n<100000):
  BaseOk Tryz.prog 1 85 (abH cs sz m c c1 c2 r n q 0) (abE f m c n piW n) (abH cs sz m c c1 c2 r n q n) (.exit 0) (abE f m c n piW n) (abH cs sz m c c1 c2 r n q n) (fun Q a w=>abA.wp Tryz.prog Q a w):=by
 exact round_told (C:=abR f of (0,0)) (H0:=abH cs sz m c c1 c2 r n q 0) (e:=abE f m c n piW n) (H:=abH cs sz m c c1 c2 r n q n) (n:=60) (ts:=[39,38,13,5,4,2,11,3]) (bo:=[2,1,3]) (bs:=[]) (A:=abD m c c1 c2 r++[(3,.cells (fil q n n) 0)]) (B:=[]) (D:=abD m c c1 c2 r++[(3,.cells (fil q n 0) 0)]) (e1:=abE f m c n piW n) (O1:=abD m c c1 c2 r++[(3,.cells (fil q n n) 0)]) (abR_ok hf _) zm_ok abA_loops
  (by
    unfold abR
    refine(hf.rd fiReal _ _ _ _ _ _ _ _ _ cs (fil q n n) sz m c n n c1 c2 r piW _).trans ?_
    unfold abRd
    rw[decide_eq_false (by omega),cond_false]) rfl
  (by
    show renOs _ ((2,.cells [.complex .f64 c1 c2,.float .f64 r] 0)::(1,.cells [nilS] 0)::[(3,.cells (fil q n n) 0)])=_; simp only[renOs,renO,renL,renV]
    rw[rens_flat (fil_flat q n n)]
    rfl) rfl rfl rfl rfl rfl
theorem ab_rounds (hf:AbF f of) (hcs:inns 0 cs=true) (h:Abt of cs sz m c c1 c2 r n d z v q) (hn:n<100000):
  BaseRounds Tryz.prog 1 85 (abH cs sz m c c1 c2 r n q 0) abA (abE f m c n piW (0:Nat)) (abH cs sz m c c1 c2 r n q 0) (.exit 0) (abE f m c n piW n) (abH cs sz m c c1 c2 r n q n):=by
 refine base_count (E:=fun k:Nat=>abE f m c n piW k) (H:=fun k=>abH cs sz m c c1 c2 r n q k) n 0 (fun k _ hk=>ab_step hf hcs h hn (by omega)) (base_end (by intro h;cases h) ?_)
 simp only[Nat.zero_add]
 exact ab_last hf hn
theorem ab_call {x y u w:Nat} {g:Nat→Nat×Nat} (hf:AbF f of) (hcs:inns 0 cs=true) (h:Abt of cs sz m c c1 c2 r n d z v q) (n1:1≤n) (hn:n≤16384) (ha:∀ H,FlatCall Tryz.prog 85 [flowV 0 m c,ciV c1 c2 r] H (.int .i64 0))
  (hs:SumT (lst q n) g) (hx:g n=(x,y)) (hl:∀(R:Type) (K:Nat→Nat→Bool→Option R),lasK n x y K=K u w true):
  FlatCall Tryz.prog 48 [flowV 0 m c,ciV c1 c2 r,.int .i64 n,abFn f] ⟨1,[]⟩ (.tuple ⟨[.complex .f64 u w,.int .i64 0]⟩):=by
 have hB:=@base_loop _ _ _ _ _ _ _ _ _ (ab_rounds hf hcs h (by omega)); have ha':FlatCall Tryz.prog 85 [flowV 0 m c,ciV c1 c2 r] ⟨3,abD m c c1 c2 r⟩ (.int .i64 0):=ha _; have hsum:FlatCall Tryz.prog 44 [abV n] (abH cs sz m c c1 c2 r n q n) (.complex .f64 x y):=by
  have:=sum_call (cs:=cxCells (lst q n)) (sz:=0) (o:=0) (c:=n) (zs:=lst q n) (f:=g) (cxAt_cells _) (by rw[lst_len];omega) hs
  rw[lst_len,hx]at this
  refine FlatCall.one (b:=3) this (cx_flatW _) ?_ rfl
  unfold abH
  rw[fil_end]
  simp
 have ht:=hf.top (told Tryz.prog (.exit 0) (abE f m c n piW n) (abH cs sz m c c1 c2 r n q n)) fiReal Value rSt (rAp Tryz.prog) plaK addK mulK timesK of (saysR Tryz.prog 85 (.int .i64 0)) (saysR Tryz.prog 44 (.complex .f64 x y)) sclK cs sz m c n c1 c2 r x y (fun d e O=>endE Tryz.prog 1 Tryz.f48.results.toList (fun v _=>some v) d e ⟨4,O⟩) FiniteK
 rw[says_eq ha',decide_eq_false (show ¬ ((n:Int)<1) by omega),decide_eq_false (show ¬ ((n:Int) > 16384) by omega)]at ht
 simp only[cond_false]at ht
 rw[decide_eq_true (show (0:Int)≤(n:Int) by omega),decide_eq_true (show (n:Int)≤(n:Int) by omega),decide_eq_true (show (n:Int)≤4294967296 by omega),decide_eq_true (show (16:Int)*n≤281474976710656 by omega),show Nat.beq ((n:Int).toNat*1) 0=false by
  cases hb:Nat.beq ((n:Int).toNat*1) 0 with
  |true=>have:=Nat.eq_of_beq_eq_true hb;omega
  |false=>rfl]at ht
 rw[show (true && true && true && true && !false)=true from rfl,cond_true,fil_zero q n]at ht
 have ht:=ht.trans (told_eq @hB _ _)
 rw[leave_then]at ht
 have ht:=ht.trans (hf.fin _ fiReal _ _ _ _ _ _ _ _ _ _ _ cs (fil q n n) sz m c n n c1 c2 r x y _ _ piW); have ht:=ht.trans (says_eq hsum); have hl':=hl Value; unfold lasK at hl'; have ht:=ht.trans (hl' _); simp only[cond_true]at ht; have hend:endE Tryz.prog 1 Tryz.f48.results.toList (fun v _=>some v) (some (82,abV n)) [(8,.complex .f64 u w),(9,.int .i64 0)] ⟨4,[(3,.cells (fil q n n) 0)]⟩=some (.tuple ⟨[.complex .f64 u w,.int .i64 0]⟩):=by
  unfold endE; simp only
  rw[clear82 n1 (Nat.le_of_eq (fil_len q (Nat.le_refl n)).symm)]
  rfl
 have ht:=ht.trans hend; exact fun_spine (C:=abS f of x y) (n:=60) (H:=⟨1,[]⟩) (args:=[flowV 0 m c,ciV c1 c2 r,.int .i64 n,abFn f]) (abS_ok hf x y) zm_ok Tryz.func48 ab_body (L:=slimL [39,38,13,5,4,2,11,3] [2,1,3] (told Tryz.prog (.exit 0) (abE f m c n piW n) (abH cs sz m c c1 c2 r n q n))) (fun _ a _=>slimL_ok (told_ok _ _ _ _ a)) (Nat.le_of_ble_eq_true rfl) (fun d e H v h=>fin_take (nx:=4) h) ht rfl
end
def nf:Value:=.agg ⟨[nilS]⟩
theorem nil_61 (wi:KCFB) (fn:KCB) (R:Type) (z1 z2:Nat) (k:Value→Option R):evFn (cx Tryz.prog [(92,sCFB wi),(91,sCB fn)]) 60 61 [nf,.complex .f64 z1 z2] k =
  wi R z1 z2 4787326403894837248 fun t=>forceB t fun t=>bif t then fn R 0 0 fun t=>forceB t fun t=>bif t then k (reV 0 0 0) else k (reV 0 0 6) else k (reV 0 0 5):=by kernel_rfl
theorem nil_85 (wi:KCFB) (R:Type) (c1 c2 r:Nat) (k:Value→Option R):evFn (cx Tryz.prog [(92,sCFB wi)]) 60 85 [nf,ciV c1 c2 r] k =
  wi R c1 c2 4787326403894837248 fun t=>forceB t fun t=>bif t then (bif geF r 4427038433705197568 then (bif leF r 4787326403894837248 then k (.int .i64 0) else k (.int .i64 5)) else k (.int .i64 5)) else k (.int .i64 5):=by kernel_rfl
theorem nil_11 (wi:KCFB) (fn:KCB) (sc:KCFC) (R:Type) (c1 c2 r:Nat) (k:Value→Option R):evFn (cx Tryz.prog [(92,sCFB wi),(91,sCB fn),(15,sCFC sc)]) 60 11 [nf,ciV c1 c2 r] k =
  wi R c1 c2 4787326403894837248 fun t=>forceB t fun t=>bif t then (bif geF r 4427038433705197568 then (bif leF r 4787326403894837248 then bindF (fbF .mul r 4517110426252607488) fun t=>sc R 0 0 4611686018427387904 fun x y=>fn R x y fun t=>forceB t fun t=>bif t then k (reV x y 0) else k (reV 0 0 6) else k (reV 0 0 5)) else k (reV 0 0 5)) else k (reV 0 0 5):=by kernel_rfl
theorem fin0 (R:Type) (k:Bool→Option R):FiniteK R 0 0 k=k true:=by kernel_rfl
theorem scl0 (R:Type) (k:Nat→Nat→Option R):sclK R 0 0 4611686018427387904 k=k 0 0:=by kernel_rfl
theorem flat_ev {C:Cx} (hC:C.Ok) (hmix:C.P.follows .mixedOrders=true) {f:FuncId} {args:List Value} {H:AH} {v:Value} (hf:inns 0 args=true) (e:evFn C 60 f args some=some v):FlatCall C.P f args H v:=by
 obtain⟨u,h1,_,h2⟩:=evFn_sound hC hmix e hf
 cases h1
 intro ρ w args' hi ha
 rw[VRels.flat_eq ha hf]
 exact h2 w
section
variable {c1 c2 r:Nat} (hr:Fits c1 c2 r)
include hr
theorem asked_nil (H:AH):FlatCall Tryz.prog 85 [nf,ciV c1 c2 r] H (.int .i64 0):=
 flat_ev (C:=cx Tryz.prog [(92,sCFB WithinK)]) (cx_ok (.cons k135 h135r .nil)) zm_ok rfl (by rw[nil_85,hr.within,forceB_eq,cond_true,hr.lo,cond_true,hr.hi,cond_true])
theorem res_nil {t:Nat} (ht:fbF .mul r 4517110426252607488=some t) (H:AH):FlatCall Tryz.prog 10 [nf,ciV c1 c2 r] H (reV 0 0 0):=nil_call hr ht (fun R wi k=>nil_37 R wi _ _ _ k)
theorem sqs_nil {t:Nat} (ht:fbF .mul r 4517110426252607488=some t) (H:AH):FlatCall Tryz.prog 11 [nf,ciV c1 c2 r] H (reV 0 0 0):=
 flat_ev (C:=cx Tryz.prog [(92,sCFB WithinK),(91,sCB FiniteK),(15,sCFC sclK)]) (cx_ok (.cons k135 h135r (.cons k93 h93 (.cons k39 h39 .nil)))) zm_ok rfl (by
  rw[nil_11,hr.within,forceB_eq,cond_true,hr.lo,cond_true,hr.hi,cond_true,bindF_val ht,scl0,fin0,forceB_eq,cond_true])
end
theorem speed_nil {z1 z2:Nat} (hz:∀(R:Type) (k:Bool→Option R),WithinK R z1 z2 4787326403894837248 k=k true) (H:AH):FlatCall Tryz.prog 61 [nf,.complex .f64 z1 z2] H (reV 0 0 0):=
 flat_ev (C:=cx Tryz.prog [(92,sCFB WithinK),(91,sCB FiniteK)]) (cx_ok (.cons k135 h135r (.cons k93 h93 .nil))) zm_ok rfl (by rw[nil_61,hz,forceB_eq,cond_true,fin0,forceB_eq,cond_true])
section
variable (fi:Fi) (R:Type) (st:St) (ap:Ap) (wi:KCFB) (gc:HT) (j c1 c2 r x y:Nat) (e:Int) (K:Ex→Env→Objs→Option R)
theorem ig_eq:evTop (akC fi st ap wi [(48,saysV (.tuple ⟨[.complex .f64 x y,.int .i64 e]⟩) gc)] []) 60 noL 1 14 (codeOf 12) (enumE 0 [nf,ciV c1 c2 r,.int .i64 j]) ⟨1,[]⟩ (takeC [6,7] [] K) =
  gc R [nf,ciV c1 c2 r,.int .i64 j,abFn 49] ⟨3,[(2,.cells [.complex .f64 c1 c2,.float .f64 r] 0),(1,.cells [nilS] 0)]⟩ (K .ret [(6,.complex .f64 x y),(7,.int .i64 e)] []):=by kernel_rfl
theorem sq_eq:evTop (akC fi st ap wi [(48,saysV (.tuple ⟨[.complex .f64 x y,.int .i64 e]⟩) gc)] []) 60 noL 1 14 (codeOf 13) (enumE 0 [nf,ciV c1 c2 r,.int .i64 j]) ⟨1,[]⟩ (takeC [6,7] [] K) =
  gc R [nf,ciV c1 c2 r,.int .i64 j,abFn 50] ⟨3,[(2,.cells [.complex .f64 c1 c2,.float .f64 r] 0),(1,.cells [nilS] 0)]⟩ (K .ret [(6,.complex .f64 x y),(7,.int .i64 e)] []):=by kernel_rfl
end
theorem up {f:FuncId} {args:List Value} {v:Value} (hf:inns 0 args=true) (h:FlatCall Tryz.prog f args ⟨1,[]⟩ v) (H:AH):FlatCall Tryz.prog f args H v:=calls_pull (q:=only 0) within_empty (rens_flat hf) h
section
variable {j c1 c2 r x y:Nat} {e:Int}
theorem integral_nil (hc:∀ H,FlatCall Tryz.prog 48 [nf,ciV c1 c2 r,.int .i64 j,abFn 49] H (reV x y e)) (H:AH):FlatCall Tryz.prog 12 [nf,ciV c1 c2 r,.int .i64 j] H (reV x y e):=by
 have h:=ig_eq fiReal (Ex×Env×Objs) rSt (rAp Tryz.prog) WithinK (saysR Tryz.prog 48 (reV x y e)) j c1 c2 r x y e fun ex e O=>some (ex,e,O)
 rw[says_eq (hc _)]at h
 exact up rfl (fun_flat (C:=akR [(48,saysV (reV x y e) (saysR Tryz.prog 48 (reV x y e)))] []) (args:=[nf,ciV c1 c2 r,.int .i64 j]) (H:=⟨1,[]⟩) (akR_ok (.cons (says_ok rfl) h48s .nil) .nil) zm_ok (L:=noL) Tryz.func12 ig_body (fun a _=>noL_ok) (Nat.le_of_ble_eq_true rfl) h (.inr rfl) (vs:=[.complex .f64 x y,.int .i64 e]) rfl rfl) H
theorem square_nil (hc:∀ H,FlatCall Tryz.prog 48 [nf,ciV c1 c2 r,.int .i64 j,abFn 50] H (reV x y e)) (H:AH):FlatCall Tryz.prog 13 [nf,ciV c1 c2 r,.int .i64 j] H (reV x y e):=by
 have h:=sq_eq fiReal (Ex×Env×Objs) rSt (rAp Tryz.prog) WithinK (saysR Tryz.prog 48 (reV x y e)) j c1 c2 r x y e fun ex e O=>some (ex,e,O)
 rw[says_eq (hc _)]at h
 exact up rfl (fun_flat (C:=akR [(48,saysV (reV x y e) (saysR Tryz.prog 48 (reV x y e)))] []) (args:=[nf,ciV c1 c2 r,.int .i64 j]) (H:=⟨1,[]⟩) (akR_ok (.cons (says_ok rfl) h48s .nil) .nil) zm_ok (L:=noL) Tryz.func13 sq_body (fun a _=>noL_ok) (Nat.le_of_ble_eq_true rfl) h (.inr rfl) (vs:=[.complex .f64 x y,.int .i64 e]) rfl rfl) H
end
def meD (c1 c2 r:Nat):Objs:=[(2,.cells [.complex .f64 c1 c2,.float .f64 r] 0),(1,.cells [nilS] 0)]
def meE (n one two:Nat) (k:Int):Env:=[(11,.int .i64 k),(2,.int .i64 n),(3,.pointer (some ⟨1,0,none⟩)),(4,.pointer (some ⟨2,0,none⟩)),(9,.float .f64 one),(10,.float .f64 two)]
section
variable (L:Hand) (fi:Fi) (R:Type) (pl:KFFC) (ad:KCCC) (sp:KSpV) (ln:KCF) (n one two k c1 c2 r:Nat) (K:Ex→Env→Objs→Option R)
theorem me_top:evTop (meC fiReal pl ad sp ln) 60 (slimL [11,2,3,4,9,10] [2,1] L) 1 78 (codeOf 14) (enumE 0 [nf,ciV c1 c2 r,.int .i64 n]) ⟨1,[]⟩ (takeC [6,7,8] [] K) =
  L R 1 78 meA (meE n 0 0 0) ⟨3,meD c1 c2 r⟩ (leaveE 0 (thenE (fun en H=>evTop (meC fiReal pl ad sp ln) 60 (slimL [11,2,3,4,9,10] [2,1] L) 1 78 (seqN 4 (codeOf 14)) en H (takeC [6,7,8] [] K)) (takeC [6,7,8] [] K))):=by kernel_rfl
theorem me_round:evTop (meC fiReal pl ad sp ln) 60 (rollL (meC fiReal pl ad sp ln) 60) 1 78 meA (meE n one two k) ⟨3,meD c1 c2 r⟩ (takeC [11,2,3,4,9,10,6,7,8] [2,1] K) =
  bif decide ((k:Int)<n) then
   forceN (floatOfInt .f64 (k:Int)) fun a=>bindF (fbF .mul 4618760256179416344 a) fun a=>forceN (floatOfInt .f64 (n:Int)) fun b=>bindF (fbF .quo a b) fun t=>pl R r t fun d1 d2=>
    bindF (fbF .add one 0) fun one=>bindF (fbF .mul 0 0) fun q=>bindF (fbF .add two q) fun two=>fiReal R (IntKind.i64.wrap (k+1)) fun i=>K .normal (meE n one two i) (meD c1 c2 r)
  else K (.exit 0) (meE n one two k) (meD c1 c2 r):=by kernel_rfl
theorem me_end:evTop (meC fiReal pl ad sp ln) 60 L 1 78 (seqN 4 (codeOf 14)) (meE n one two k) ⟨3,meD c1 c2 r⟩ (takeC [6,7,8] [] K) =
  bindF (fbF .mul 4618760256179416344 r) fun a=>forceN (floatOfInt .f64 (n:Int)) fun b=>bindF (fbF .quo a b) fun q=>bindF (fbF .mul one q) fun x=>bindF (fbF .mul two q) fun y=>K .ret [(6,.float .f64 x),(7,.float .f64 y),(8,.bool true)] []:=by kernel_rfl
end
theorem means_nil {c1 c2 r n:Nat} {d:Nat→Nat×Nat} (hg:∀ k,k<n→∀(R:Type) (K:Nat→Nat→Option R),gonM r n k K=K (d k).1 (d k).2) (hn:n<100000) {t u:Nat}
  (he:∀(R:Type) (K:Nat→Nat→Option R),(bindF (fbF .mul 4618760256179416344 r) fun a=>forceN (floatOfInt .f64 (n:Int)) fun b=>bindF (fbF .quo a b) fun q=>bindF (fbF .mul 0 q) fun x=>bindF (fbF .mul 0 q) fun y=>K x y)=K t u) (H:AH):
  FlatCall Tryz.prog 14 [nf,ciV c1 c2 r,.int .i64 n] H (meV t u):=by
 have a0:fbF .add 0 0=some 0:=by kernel_rfl
 have m0:fbF .mul 0 0=some 0:=by kernel_rfl
 have hR:BaseRounds Tryz.prog 1 78 ⟨3,meD c1 c2 r⟩ meA (meE n 0 0 (0:Nat)) ⟨3,meD c1 c2 r⟩ (.exit 0) (meE n 0 0 n) ⟨3,meD c1 c2 r⟩:=by
  refine base_count (P:=Tryz.prog) (lo:=1) (sz:=78) (a:=meA) (H0:=⟨3,meD c1 c2 r⟩) (E:=fun k:Nat=>meE n 0 0 k) (H:=fun _=>⟨3,meD c1 c2 r⟩) (ex:=.exit 0) (e':=meE n 0 0 n) (H':=⟨3,meD c1 c2 r⟩) n 0 (fun k _ hk=>?_) (base_end (by intro h;cases h) ?_)
  ·exact round_toldL (C:=meR) (L:=rollL meR 60) meR_ok zm_ok (fun a _=>rollL_ok meR_ok zm_ok 60 a) (H0:=⟨3,meD c1 c2 r⟩) (e:=meE n 0 0 k) (H:=⟨3,meD c1 c2 r⟩) (n:=60) (ts:=[11,2,3,4,9,10,6,7,8]) (bo:=[2,1]) (bs:=[]) (A:=meD c1 c2 r) (B:=[]) (D:=meD c1 c2 r) (e1:=meE n 0 0 (k+1:Nat)) (O1:=meD c1 c2 r)
    (by
      refine(me_round ..).trans ?_
      rw[decide_eq_true (show (k:Int)<n by omega),cond_true]
      have g:=hg k (by omega) (Ex×Env×Objs); unfold gonM at g
      refine(g _).trans ?_
      rw[bindF_eq a0,bindF_eq m0,bindF_eq a0,fiReal_fair,wrap_up (by omega)]) rfl rfl rfl rfl rfl rfl rfl
  ·simp only[Nat.zero_add]
   exact round_toldL (C:=meR) (L:=rollL meR 60) meR_ok zm_ok (fun a _=>rollL_ok meR_ok zm_ok 60 a) (H0:=⟨3,meD c1 c2 r⟩) (e:=meE n 0 0 n) (H:=⟨3,meD c1 c2 r⟩) (n:=60) (ts:=[11,2,3,4,9,10,6,7,8]) (bo:=[2,1]) (bs:=[]) (A:=meD c1 c2 r) (B:=[]) (D:=meD c1 c2 r) (e1:=meE n 0 0 n) (O1:=meD c1 c2 r)
    (by
      refine(me_round ..).trans ?_
      rw[decide_eq_false (by omega),cond_false]) rfl rfl rfl rfl rfl rfl rfl
 have hB:=@base_loop _ _ _ _ _ _ _ _ _ hR; have ht:=me_top (told Tryz.prog (.exit 0) (meE n 0 0 n) ⟨3,meD c1 c2 r⟩) (Ex×Env×Objs) plaK addK spdK lengthK n c1 c2 r fun ex e O=>some (ex,e,O)
 have ht:=ht.trans (told_eq @hB _ _)
 rw[leave_then]at ht
 have ht:=ht.trans (me_end _ _ plaK addK spdK lengthK n 0 0 n c1 c2 r _); have ht:=ht.trans (he (Ex×Env×Objs) fun x y=>some (.ret,[(6,.float .f64 x),(7,.float .f64 y),(8,.bool true)],[])); exact up rfl (fun_flat (C:=meR) (args:=[nf,ciV c1 c2 r,.int .i64 n]) (H:=⟨1,[]⟩) meR_ok zm_ok Tryz.func14 me_body (fun a _=>slimL_ok (told_ok _ _ _ _ a)) (Nat.le_of_ble_eq_true rfl) ht (.inr rfl) (vs:=[.float .f64 t,.float .f64 u,.bool true]) rfl rfl) H
end Go.Vm.Nl
