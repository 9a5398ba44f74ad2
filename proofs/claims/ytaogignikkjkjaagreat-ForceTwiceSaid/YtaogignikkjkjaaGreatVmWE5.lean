/- A part; no conditions. -/
import Derived.Test.YtaogignikkjkjaaGreatVmWE0
set_option maxRecDepth 1000000
set_option maxHeartbeats 1000000
set_option linter.all false
open Go.Vx.Cp renaming of->C9,zero->Z9,one->O9,mul_assoc->M9,ext'->E9,sub_re->S9,sub_im->T9
open Rat renaming le_refl->R9
open Go renaming IntKind->K9,floatToIntVal->J9
namespace Go.Vx
open Go.Vm Go.Proofs Ieee
theorem bO7:∀ν:Nat,ν<9->aEm 1 (ν:Int) aMu=some (fI ((mP ν*cf 1 (ν+1):Nat):Int))/\1<=mP ν*cf 1 (ν+1)/\mP ν*cf 1 (ν+1)<=10000000000:=by decide +kernel
theorem bO5:∀m:Nat,m<9->∀ν:Nat,ν<9->1<=m->aEm (m:Int) ((m:Int)+(ν:Int)) aMu=some (fI ((m*(mP ν*cf (m+1) (ν+1)):Nat):Int))/\1<=m*(mP ν*cf (m+1) (ν+1))/\m*(mP ν*cf (m+1) (ν+1))<=10000000000:=by decide +kernel
theorem bO4:∀m:Nat,m<5->∀ν:Nat,ν<m->aEm ((m:Int)-(ν:Int)) (m:Int) aMu=some (fI ((m*(mP ν*cl (m-1) (ν+1)):Nat):Int))/\1<=m*(mP ν*cl (m-1) (ν+1))/\m*(mP ν*cl (m-1) (ν+1))<=10000000000:=by decide +kernel
theorem bO6:∀ν:Nat,ν<8->aEm 1 (((ν+1:Nat):Int)-1) aMu=some (fI ((mP ν:Nat):Int))/\1<=mP ν/\mP ν<=10000000000:=by decide +kernel
theorem bJc:∀ν:Nat,ν<9->(((ν:Int).tmod 2==1)=true/\(-1:Rat)^ν=-1)\/(((ν:Int).tmod 2==1)=false/\(-1:Rat)^ν=1):=by decide +kernel
theorem sM{a b:Int}{w:Nat}(h:aEm a b aMu=some w)(R:Type)(k:KNO R):gF R a b k=k w:=by unfold gF;rw[h];rfl
theorem bSo(a b c d:Int):gz a b-gz c d=gz (a-c) (b-d):=by
 refine E9 ?_ ?_;· show(a:Rat)-(c:Rat)=((a-c:Int):Rat);push_cast;rfl
 ·show(b:Rat)-(d:Rat)=((b-d:Int):Rat);push_cast;rfl
theorem aI9(k:Int)(a b:Int):gz (a*k) (b*k)=C9 (k:Rat)*gz a b:=by
 rw[Cp.of_mul];refine E9 ?_ ?_;· show((a*k:Int):Rat)=(k:Rat)*(a:Rat);push_cast;grind
 ·show((b*k:Int):Rat)=(k:Rat)*(b:Rat);push_cast;grind
theorem bL3{a b:Int}(h1:a.natAbs<=2000)(h2:b.natAbs<=2000):Nm (gz a b) 2829:=by
 refine⟨by decide,?_⟩;have e:(gz a b).nsq=((a*a+b*b:Int):Rat):=by show(a:Rat)*a+(b:Rat)*b=_;push_cast;rfl
 rw[e];have a1:a*a<=2000*2000:=by
  have:a*a=((a.natAbs*a.natAbs:Nat):Int):=by push_cast;rw[Int.natAbs_mul_self']
  rw[this];exact_mod_cast Nat.mul_le_mul h1 h1
 have a2:b*b<=2000*2000:=by
  have:b*b=((b.natAbs*b.natAbs:Nat):Int):=by push_cast;rw[Int.natAbs_mul_self']
  rw[this];exact_mod_cast Nat.mul_le_mul h2 h2
 have h:((a*a+b*b:Int):Rat)<=((8000000:Int):Rat):=Rat.intCast_le_intCast.2 (by omega);refine cR h (by decide +kernel)
section
variable{cx cy r:Int}{hX hY:Th}
theorem bL0:gmm cx cy r hX-gmm cx cy r hY=C9 ((r:Rat))⁻¹*gz (hX.x-hY.x) (hX.y-hY.y):=by unfold gmm;rw[<-Cp.mul_sub,bSo];congr 2<;>omega
theorem bA9{ν:Nat}(h:ν<9)(neg:Bool){K:Nat}(k1:1<=K)(hK:K<=10000000000):
  ∃v,fbF .mul (bif xor neg ((ν:Int).tmod 2==1) then 13830554455654793216 else 4607182418800017408) (fI (K:Int))=some v/\Is v ((bif neg then -1 else 1)*(K:Rat)*(-1)^ν)/\v=bif xor neg ((ν:Int).tmod 2==1) then Op.negFloat .f64 (fI (K:Int)) else fI (K:Int):=by
 have hw:Is (fI (K:Int)) ((K:Int):Rat):=jF (by omega);have one:Is 13830554455654793216 ((-1:Int):Rat):=vC (by kernel_rfl) (by decide);have q1:(1:Rat)<=(K:Rat):=by exact_mod_cast k1
 have hn:=wJ hw;obtain⟨v,e,i⟩:=aJl one hw (by omega);obtain⟨u,e',i'⟩:=aJl bXz hw (by omega);rw[show(((-1*(K:Int):Int)):Rat)=-(K:Rat) by push_cast;grind]at i;rw[show(((1*(K:Int):Int)):Rat)=(K:Rat) by push_cast;grind]at i';rw[show((K:Int):Rat)=(K:Rat) by norm_cast]at hw hn;have ev:v=Op.negFloat .f64 (fI (K:Int)):=uA i hn (by rw[Rat.abs_neg,fZ (by grind)];exact q1);have eu:u=fI (K:Int):=uA i' hw (by rw[fZ (by grind)];exact q1);rcases bJc ν h with ⟨a,b⟩|⟨a,b⟩<;>cases neg<;>rw[a,b]
 ·exact⟨v,e,by rw[F7,show(1:Rat)*(K:Rat)*-1=-(K:Rat) by grind];exact i,ev⟩
 ·exact⟨u,e',by rw[T7,show(-1:Rat)*(K:Rat)*-1=(K:Rat) by grind];exact i',eu⟩
 ·exact⟨u,e',by rw[F7,show(1:Rat)*(K:Rat)*1=(K:Rat) by grind];exact i',eu⟩
 ·exact⟨v,e,by rw[T7,show(-1:Rat)*(K:Rat)*1=-(K:Rat) by grind];exact i,ev⟩
theorem cBc:∀ν:Nat,ν<9->(((ν:Int).tmod 2==0)=!((ν:Int).tmod 2==1)):=by decide +kernel
theorem aWq{b:Bool}{K ν:Nat}(h:ν<9)(h1:1<=K)(h2:K<=10000000000):1<=((bif b then(-1:Rat) else 1)*(K:Rat)*(-1)^ν).abs/\((bif b then(-1:Rat) else 1)*(K:Rat)*(-1)^ν).abs<=10000000000:=by
 have k1:(1:Rat)<=(K:Rat):=by exact_mod_cast h1
 have k2:(K:Rat)<=10000000000:=by exact_mod_cast h2
 have e:((bif b then(-1:Rat) else 1)*(K:Rat)*(-1)^ν).abs=(K:Rat):=by
  rcases bJc ν h with ⟨_,q⟩|⟨_,q⟩<;>cases b<;>rw[q]
  ·rw[F7,show(1:Rat)*K*-1=-K by grind,Go.Vm.abs_neg,fZ (by grind)]
  ·rw[T7,show(-1:Rat)*K*-1=K by grind,fZ (by grind)]
  ·rw[F7,show(1:Rat)*K*1=K by grind,fZ (by grind)]
  ·rw[T7,show(-1:Rat)*K*1=-K by grind,Go.Vm.abs_neg,fZ (by grind)]
 rw[e];exact⟨k1,k2⟩
theorem bRz(fX:qW hX)(fY:qW hY){c:Nat×Nat}{C κ:Cp}{s:Sd}(R1:(1:Rat)<=(r:Rat))(bX:Nm (gmm cx cy r hX) (5075/10000))(DY:Dsc (r:Rat) (gmm cx cy r hY) hY false c C s κ){ν:Nat}(h9:ν<9):
  ∃(v:Nat×Nat)(V:Cp)(L:List Fc),s=.out L/\IsZ v.1 v.2 V/\Rl V (κ*(C9 (mP ν:Rat)*(C9 ((r:Rat))⁻¹).pw ν)*Fv (gmm cx cy r hX) L (ν+1)) (105*eps)/\bCt hX.el (ν:Int) hY.el v/\bJp (fI hX.x) (fI hX.y) (ν:Int) hY.el v:=by
 have ep:=bI;have bx:=fX.xy;have bY:=fY.xy;have pY:=fY.pow;have Rn:(r:Rat)≠0:=by grind
 obtain⟨d1,d2,hd,hsub⟩:=aDk fX.at fY.at (by omega) (by omega);have iD:IsZ d1 d2 (gz (hX.x-hY.x) (hX.y-hY.y)):=aJc hd;have nD:Nm (gz (hX.x-hY.x) (hX.y-hY.y)) 2829:=bL3 (by omega) (by omega);have ti:J9 .f64 (fI hY.p) .i64=some hY.p:=xR (jF (by omega)) (by omega);have way:=bL0 (cx:=cx) (cy:=cy) (r:=r) (hX:=hX) (hY:=hY);have far:Ng (gmm cx cy r hY) (197058/100000)->Ng (gz (hX.x-hY.x) (hX.y-hY.y)) 1:=λg=>by
  refine aBh λh=>?_
  rw[h,Cp.mul_zero]at way;have e:gmm cx cy r hX=gmm cx cy r hY:=by
   have h1:(gmm cx cy r hX-gmm cx cy r hY).re=Cp.zero.re:=by rw[way]
   have h2:(gmm cx cy r hX-gmm cx cy r hY).im=Cp.zero.im:=by rw[way]
   rw[S9,Cp.zero_re]at h1;rw[T9,Cp.zero_im]at h2;exact E9 (by grind) (by grind)
  rw[<-e]at g;have:=bE6 g bX;exact absurd this (by decide +kernel)
 have lowS:gz hY.s hY.t=Z9\/Ng (gz hY.s hY.t) (1/10):=aR2;have nS:Nm (gz hY.s hY.t) 20000:=aDb (by omega) (by omega);have iS:IsZ (fI hY.s) (fI hY.t) (gz hY.s hY.t):=aJc fY.st;have hdv:∀(R:Type)(k:KNN R),dvK R hY.el.kind hY.el.a1 hY.el.a2 hY.el.s1 hY.el.s2 hY.el.p hX.el.a1 hX.el.a2 (ν:Int) k=dvB aG gF mV reH gJ rN dV eQ R hY.kind (fI hY.x) (fI hY.y) (fI hY.s) (fI hY.t) (fI hY.p) (fI hX.x) (fI hX.y) (ν:Int) k:=λR k=>rfl
 have mk:∀{v:Nat×Nat}(k:hY.kind=1\/hY.kind=2\/hY.kind=3\/hY.kind=4),(∀(R:Type)(K:KNN R),deK hY.kind R hY.kind (fI hY.x) (fI hY.y) (fI hY.s) (fI hY.t) (fI hY.p) d1 d2 (ν:Int) K=K v.1 v.2)->bJp (fI hX.x) (fI hX.y) (ν:Int) hY.el v:=λk h=>⟨k,λR K=>(hsub R _).trans (h R K)⟩
 unfold bCt;simp only[hdv];cases DY with
 |stream k=>
  cases ν with
  |zero=>
   refine⟨(fI hY.s,fI hY.t),gz hY.s hY.t,_,rfl,iS,?_,λR K=>?_,mk (.inl k) λR K=>by rw[k];rfl⟩;· show Rl _ (gz hY.s hY.t*(C9 ((1:Nat):Rat)*O9)*O9) _;rw[Cp.mul_one,Cp.mul_one,show C9 ((1:Nat):Rat)=O9 from rfl,Cp.mul_one];exact Rl.refl _ (by grind)
   ·rw[k];show gJ R _ _ _ _ _=_;rw[hsub,ti];show aG R _ _=_;rw[iK,iK];rfl
  |succ ν=>
   refine⟨(0,0),Z9,_,rfl,⟨by show Is _ (0:Rat);simpa using hJ,by show Is _ (0:Rat);simpa using hJ⟩,?_,λR K=>?_,mk (.inl k) λR K=>?_⟩;· rw[show Fv (gmm cx cy r hX) (jU Z9 qB 0) (ν+1+1)=Z9 from rfl,Cp.mul_zero];exact Rl.refl _ (by grind)
   ·rw[k];show gJ R _ _ _ _ _=_;rw[hsub,ti];show aG R _ _=_;rw[iK,iK];have e:(((ν+1:Nat):Int)==0)=false:=by simp;omega
    show(bif(((ν+1:Nat):Int).tmod 2==1) then(bif((ν+1:Nat):Int)==0 then K (fI hY.s) (fI hY.t) else K 0 0) else(bif((ν+1:Nat):Int)==0 then K (fI hY.s) (fI hY.t) else K 0 0))=_;rw[e];cases((ν+1:Nat):Int).tmod 2==1<;>rfl
   ·rw[k];show(bif decide (((ν+1:Nat):Int)>0) then K 0 0 else K (fI hY.s) (fI hY.t))=_;rw[D7 (by omega)];rfl
 |srcO _ _ k hc iC lC nC hγ=>
  obtain⟨t1,t2,t3⟩:=bO7 ν h9;obtain⟨w,ew,iw,hw⟩:=bA9 h9 false t2 t3;obtain⟨F1,F2⟩:=aWq (b:=false) h9 t2 t3;have gD:=far hγ;obtain⟨v,V,iV,rV,hV⟩:=aXo iC lC nC iw F1 F2 iD nD gD (N:=ν+1) (by omega);have wr:K9.i64.wrap ((ν:Int)+1)=((ν+1:Nat):Int):=by rw[qI (by omega) (by omega)];push_cast;rfl
  refine⟨v,V,_,rfl,iV,?_,λR K=>?_,mk (.inr (.inl k)) λR K=>?_⟩
  ·rw[aHm Rn (vF hγ (by decide +kernel)) (vF gD (by decide)) way];rw[F7]at rV;have e:(1:Rat)*((mP ν*cf 1 (ν+1):Nat):Rat)*(-1)^ν=(mP ν:Rat)*(cf 1 (ν+1):Rat)*(-1)^ν:=by push_cast;grind
   rw[e]at rV;exact rV
  ·rw[k];show gJ R _ _ _ _ _=_;rw[hsub,ti];show aG R _ _=_;rw[iK,iK];have main:∀SG,fbF .mul SG (fI ((mP ν*cf 1 (ν+1):Nat):Int))=some w->dv2 aG gF mV reH rN eQ (fI hY.s) (fI hY.t) d1 d2 (ν:Int) K SG=K v.1 v.2:=λSG hSG=>by unfold dv2;simp only[iK,wr];show eQ R (fI hY.s) (fI hY.t) 4594902181429758083 _=_;rw[hc,sM t1,aK hSG];exact hV R K
   show(bif((ν:Int).tmod 2==1) then dv2 aG gF mV reH rN eQ (fI hY.s) (fI hY.t) d1 d2 (ν:Int) K 13830554455654793216 else dv2 aG gF mV reH rN eQ (fI hY.s) (fI hY.t) d1 d2 (ν:Int) K 4607182418800017408)=_;cases hs:((ν:Int).tmod 2==1) with
   |true=>rw[hs]at ew;exact main _ ew
   |false=>rw[hs]at ew;exact main _ ew
  ·rw[k];show eQ R (fI hY.s) (fI hY.t) 4594902181429758083 _=_;rw[hc,sM t1,iK];simp only[iK,wr];cases hs:((ν:Int).tmod 2==1) with
   |true=>rw[hs]at hw;rw[T7,cB];rw[hw]at hV;exact hV R K
   |false=>rw[hs]at hw;rw[hw]at hV;exact hV R K
 |dblO m k m1 m8 hp hγ=>
  obtain⟨t1,t2,t3⟩:=bO5 m (by omega) ν h9 m1;obtain⟨w,ew,iw,hw⟩:=bA9 h9 true t2 t3;obtain⟨F1,F2⟩:=aWq (b:=true) h9 t2 t3;have gD:=far hγ;obtain⟨v,V,iV,rV,hV⟩:=aXo iS lowS nS iw F1 F2 iD nD gD (N:=ν+(m+1)) (by omega);have wr1:K9.i64.wrap ((m:Int)+(ν:Int))=(m:Int)+(ν:Int):=qI (by omega) (by omega);have wr2:K9.i64.wrap ((m:Int)+1)=(m:Int)+1:=qI (by omega) (by omega);have wr3:K9.i64.wrap ((m:Int)+1+(ν:Int))=((ν+(m+1):Nat):Int):=by rw[qI (by omega) (by omega)];push_cast;omega
  refine⟨v,V,_,rfl,iV,?_,λR K=>?_,mk (.inr (.inr (.inl k))) λR K=>?_⟩
  ·rw[aHm Rn (vF hγ (by decide +kernel)) (vF gD (by decide)) way,aI9];rw[T7]at rV;have e:C9 (-1*((m*(mP ν*cf (m+1) (ν+1)):Nat):Rat)*(-1)^ν)*gz hY.s hY.t=C9 ((mP ν:Rat)*(cf (m+1) (ν+1):Rat)*(-1)^ν)*(C9 ((-(m:Int):Int):Rat)*gz hY.s hY.t):=by rw[<-M9,<-Cp.of_mul_of];congr 2;push_cast;grind
   rw[e]at rV;exact rV
  ·rw[k,hp];rw[hp]at ti;show gJ R _ _ _ _ _=_;rw[hsub,ti];show aG R _ _=_;rw[iK,iK];have main:∀SG,fbF .mul SG (fI ((m*(mP ν*cf (m+1) (ν+1)):Nat):Int))=some w->dv3 aG gF mV rN eQ (fI hY.s) (fI hY.t) d1 d2 (m:Int) (ν:Int) K SG=K v.1 v.2:=λSG hSG=>by unfold dv3;simp only[iK,wr1,wr2,wr3];rw[sM t1,aK hSG];exact hV R K
   show(bif((ν:Int).tmod 2==1) then dv3 aG gF mV rN eQ (fI hY.s) (fI hY.t) d1 d2 (m:Int) (ν:Int) K 4607182418800017408 else dv3 aG gF mV rN eQ (fI hY.s) (fI hY.t) d1 d2 (m:Int) (ν:Int) K 13830554455654793216)=_;cases hs:((ν:Int).tmod 2==1) with
   |true=>rw[hs]at ew;exact main _ ew
   |false=>rw[hs]at ew;exact main _ ew
  ·rw[k,hp];rw[hp]at ti;show(J9 .f64 (fI (m:Int)) .i64).bind _=_;rw[ti];show aG R (m:Int) _=_;simp only[iK,wr1,wr2,wr3];rw[sM t1,cBc ν h9];cases hs:((ν:Int).tmod 2==1) with
   |true=>rw[hs]at hw;rw[hw]at hV;exact hV R K
   |false=>rw[hs]at hw;rw[Bool.not_false,T7,cB];rw[hw]at hV;exact hV R K
 |cor m k m1 m4 hp=>
  have gD:gz (hX.x-hY.x) (hX.y-hY.y)=Z9\/Ng (gz (hX.x-hY.x) (hX.y-hY.y)) 1:=by
   by_cases h:gz (hX.x-hY.x) (hX.y-hY.y)=Z9;· exact .inl h
   ·exact .inr (aBh h)
  rw[hp]at ti;rcases Nat.lt_or_ge ν m with hlt|hge
  ·obtain⟨t1,t2,t3⟩:=bO4 m (by omega) ν hlt;have iw:Is (fI ((m*(mP ν*cl (m-1) (ν+1)):Nat):Int)) (((m*(mP ν*cl (m-1) (ν+1)):Nat):Int):Rat):=jF (by omega);have F1:(1:Rat)<=((((m*(mP ν*cl (m-1) (ν+1)):Nat):Int):Rat)).abs/\((((m*(mP ν*cl (m-1) (ν+1)):Nat):Int):Rat)).abs<=10000000000:=by
    rw[show(((m*(mP ν*cl (m-1) (ν+1)):Nat):Int):Rat)=((m*(mP ν*cl (m-1) (ν+1)):Nat):Rat) by norm_cast];generalize m*(mP ν*cl (m-1) (ν+1))=X at *
    have a:(1:Rat)<=(X:Rat):=by exact_mod_cast t2
    have b:(X:Rat)<=10000000000:=by exact_mod_cast t3
    rw[fZ (by grind)];exact⟨a,b⟩
   obtain⟨v,V,iV,rV,hV⟩:=aXn iS lowS nS iw F1.1 F1.2 iD nD gD (N:=m-1-ν) (by omega);have wr1:K9.i64.wrap ((m:Int)-(ν:Int))=(m:Int)-(ν:Int):=qI (by omega) (by omega);have wr2:K9.i64.wrap ((m:Int)-1)=(m:Int)-1:=qI (by omega) (by omega);have wr3:K9.i64.wrap ((m:Int)-1-(ν:Int))=((m-1-ν:Nat):Int):=by rw[qI (by omega) (by omega)];omega
   refine⟨v,V,_,rfl,iV,?_,λR K=>?_,mk (.inr (.inr (.inr k))) λR K=>?_⟩
   ·rw[aLp Rn way _ (show ν<=m-1 by omega),aI9];have e:C9 (((m*(mP ν*cl (m-1) (ν+1)):Nat):Int):Rat)*gz hY.s hY.t=C9 ((mP ν:Rat)*(cl (m-1) (ν+1):Rat))*(C9 (((m:Int)):Rat)*gz hY.s hY.t):=by rw[<-M9,<-Cp.of_mul_of];congr 2;push_cast;grind
    rw[e]at rV;exact rV
   ·rw[k,hp];show gJ R _ _ _ _ _=_;rw[hsub,ti];show aG R _ _=_;rw[iK,iK];have main:dv4 aG gF mV dV eQ (fI hY.s) (fI hY.t) d1 d2 (m:Int) (ν:Int) K=K v.1 v.2:=by unfold dv4;rw[D7 (show(ν:Int)<(m:Int) by omega),T7];simp only[iK,wr1,wr2,wr3];rw[sM t1];exact hV R K
    show(bif((ν:Int).tmod 2==1) then dv4 aG gF mV dV eQ (fI hY.s) (fI hY.t) d1 d2 (m:Int) (ν:Int) K else dv4 aG gF mV dV eQ (fI hY.s) (fI hY.t) d1 d2 (m:Int) (ν:Int) K)=_;rw[main];cases((ν:Int).tmod 2==1)<;>rfl
   ·rw[k,hp];show(J9 .f64 (fI (m:Int)) .i64).bind _=_;rw[ti];show aG R (m:Int) _=_;rw[iK,E7 (show ¬((ν:Int)≥(m:Int)) by omega),F7];simp only[iK,wr1,wr2,wr3];rw[sM t1];exact hV R K
  ·refine⟨(0,0),Z9,_,rfl,⟨by show Is _ (0:Rat);simpa using hJ,by show Is _ (0:Rat);simpa using hJ⟩,?_,λR K=>?_,mk (.inr (.inr (.inr k))) λR K=>?_⟩
   ·rw[aWi (m-1) ν (by omega),Cp.mul_zero];exact Rl.refl _ (by grind)
   ·rw[k,hp];show gJ R _ _ _ _ _=_;rw[hsub,ti];show aG R _ _=_;rw[iK,iK];have main:dv4 aG gF mV dV eQ (fI hY.s) (fI hY.t) d1 d2 (m:Int) (ν:Int) K=K 0 0:=by unfold dv4;rw[E7 (show ¬((ν:Int)<(m:Int)) by omega)];rfl
    show(bif((ν:Int).tmod 2==1) then dv4 aG gF mV dV eQ (fI hY.s) (fI hY.t) d1 d2 (m:Int) (ν:Int) K else dv4 aG gF mV dV eQ (fI hY.s) (fI hY.t) d1 d2 (m:Int) (ν:Int) K)=_;rw[main];cases((ν:Int).tmod 2==1)<;>rfl
   ·rw[k,hp];show(J9 .f64 (fI (m:Int)) .i64).bind _=_;rw[ti];show aG R (m:Int) _=_;rw[iK,D7 (show((ν:Int)≥(m:Int)) by omega)];rfl
end
def lsm{α:Type}(f:α->Cp)(l:List α):Cp:=l.foldl (λa y=>a+f y) Z9
def lsr{α:Type}(f:α->Rat)(l:List α):Rat:=l.foldl (λa y=>a+f y) 0
theorem bEs{α:Type}(f:α->Cp)(l:List α)(y:α):lsm f (l++[y])=lsm f l+f y:=by unfold lsm;rw[List.foldl_append];rfl
theorem bEt{α:Type}(f:α->Rat)(l:List α)(y:α):lsr f (l++[y])=lsr f l+f y:=by unfold lsr;rw[List.foldl_append];rfl
theorem oF{α:Type}(f:α->Cp)(g:Nat->α)(p:α->Bool):∀n:Nat,lsm f (((List.range n).map g).filter p)=csm (λi=>bif p (g i) then f (g i) else Z9) n
 |0=>rfl
 |n+1=>by
  rw[List.range_succ,List.map_append,List.filter_append];show lsm f (_++List.filter p [g n])=csm _ n+_;cases h:p (g n) with
  |true=>rw[show List.filter p [g n]=[g n] by simp[h],bEs,oF f g p n];show _=_+(bif p (g n) then f (g n) else Z9);rw[h];rfl
  |false=>rw[show List.filter p [g n]=[] by simp[h],List.append_nil,oF f g p n];show _=_+(bif p (g n) then f (g n) else Z9);rw[h];exact(Cp.add_zero _).symm
theorem uB{α:Type}(f:α->Rat)(g:Nat->α)(p:α->Bool):∀n:Nat,lsr f (((List.range n).map g).filter p)=rsm (λi=>bif p (g i) then f (g i) else 0) n
 |0=>rfl
 |n+1=>by
  rw[List.range_succ,List.map_append,List.filter_append];show lsr f (_++List.filter p [g n])=rsm _ n+_;cases h:p (g n) with
  |true=>rw[show List.filter p [g n]=[g n] by simp[h],bEt,uB f g p n];show _=_+(bif p (g n) then f (g n) else 0);rw[h];rfl
  |false=>rw[show List.filter p [g n]=[] by simp[h],List.append_nil,uB f g p n];show _=_+(bif p (g n) then f (g n) else 0);rw[h];exact(Rat.add_zero _).symm
theorem aEo{α:Type}(c:Rat)(f:α->Rat):∀(l:List α)(a:Rat),l.foldl (λa y=>a+c*f y) (c*a)=c*l.foldl (λa y=>a+f y) a
 |[],_=>rfl
 |y::r,a=>by show r.foldl _ (c*a+c*f y)=c*r.foldl _ (a+f y);rw[<-Rat.mul_add,aEo c f r]
theorem mI{α:Type}(c:Rat)(f:α->Rat)(l:List α):lsr (λy=>c*f y) l=c*lsr f l:=by have:=aEo c f l 0;rw[Rat.mul_zero]at this;exact this
theorem aAk{α:Type}[Inhabited α](ys:List α):(List.range ys.length).map (λk=>ys.getD k default)=ys:=by
 refine List.ext_getElem (by simp) λi h1 h2=>?_
 rw[List.getElem_map,List.getElem_range,List.getD_eq_getElem?_getD,List.getElem?_eq_getElem h2];rfl
theorem aBc{α:Type}(l:List α):l.filter (λ_=>true)=l:=by simp
theorem wH{α:Type}[Inhabited α](f:α->Cp)(ys:List α):lsm f ys=csm (λk=>f (ys.getD k default)) ys.length:=by have h:=oF f (λk=>ys.getD k default) (λ_=>true) ys.length;rw[aBc,aAk]at h;exact h
theorem aEp{α:Type}[Inhabited α](f:α->Rat)(ys:List α):lsr f ys=rsm (λk=>f (ys.getD k default)) ys.length:=by have h:=uB f (λk=>ys.getD k default) (λ_=>true) ys.length;rw[aBc,aAk]at h;exact h
theorem xA{α:Type}[Inhabited α]{ys:List α}{k:Nat}(h:k<ys.length):ys.getD k default∈ys:=by rw[List.getD_eq_getElem?_getD,List.getElem?_eq_getElem h];exact List.getElem_mem h
theorem aDd{α:Type}[Inhabited α]{ys:List α}{wf:α->Nat×Nat}{vf:α->Cp}{bf:α->Rat}{B:Rat}(hl:ys.length<=6)(hA:∀y∈ys,IsZ (wf y).1 (wf y).2 (vf y))(hb:∀y∈ys,Nm (vf y) (bf y))(hs:lsr bf ys<=B)(fB:Fit B)(hB:2*B<=iG):
  ∃(f:Nat->Nat×Nat)(Z:Cp),aGf (ys.map wf) f/\IsZ (f (ys.map wf).length).1 (f (ys.map wf).length).2 Z/\Nm (Z-lsm vf ys) (6*eps*B)/\Nm Z (1001/1000*B):=by
 have ep:=bI;have et:=bR;rw[aEp]at hs;have hb':∀k,k<ys.length->Nm (vf (ys.getD k default)) (bf (ys.getD k default)):=λk hk=>hb _ (xA hk)
 obtain⟨g,g0,g1,g2,g3⟩:=aAv (q:=λk=>wf (ys.getD k default)) (A:=λk=>vf (ys.getD k default)) (b:=λk=>bf (ys.getD k default)) (n:=ys.length) (B:=B) (by omega) (λk hk=>hA _ (xA hk)) hb' hs fB hB;obtain⟨Z,iZ,dZ⟩:=g3 ys.length (Nat.le_refl _);have B0:0<=B:=cR (eZ λk hk=>(hb' k hk).1) hs;have e:lst (λk=>wf (ys.getD k default)) ys.length=ys.map wf:=by unfold lst;rw[show(λk=>wf (ys.getD k default))=wf∘(λk=>ys.getD k default) from rfl,<-List.map_map,aAk]
 have sT:=aFv (n:=ys.length) g0 g1 g2;rw[e]at sT;have n6:(ys.length:Rat)<=6:=by exact_mod_cast hl
 have d2:Nm (Z-lsm vf ys) (6*eps*B):=by rw[wH];refine dZ.mono ?_;have:=cG n6 (bU (bN ep) B0);grind
 have n2:Nm (lsm vf ys) B:=by rw[wH];exact(jE hb').mono hs
 refine⟨g,Z,sT,by rw[List.length_map];exact iZ,d2,(d2.near n2).mono ?_⟩;have:=cG et B0;grind
section
variable{cx cy r:Int}{hs:List Th}{n:Int}{S:jO (fI cx) (fI cy) (fI r)}
theorem aZn(g:Vm.Good S hs n){h:Th}(hm:h∈hs)(hk:h.kind=2\/h.kind=3):ltF (S.lw h.el) (fI r)=leF (S.lw h.el) (xU (fI r)):=by
 obtain⟨L,iL,L0,_⟩:=bEv g hm;obtain⟨r1,r2⟩:=bI3 g;have gr1:=g.r1;have gr2:=g.r2;have ir:Is (fI r) (r:Rat):=jF (by omega);have w:=g.well h hm;unfold aNl at w;have k1:(h.el.kind==1)=false:=by show(h.kind==1)=false;rcases hk with e|e<;>rw[e]<;>rfl
 have k4:(h.el.kind==4)=false:=by show(h.kind==4)=false;rcases hk with e|e<;>rw[e]<;>rfl
 rw[k1,k4,Bool.false_or,Bool.false_or]at w;rw[sD iL (aJa g.r1 g.r2).2,tB iL (aKt g.r1 g.r2).2]at w;rw[zZ iL ir,sD iL (aJa g.r1 g.r2).2];by_cases a:L<=(r:Rat)/2;· rw[D7 a,D7 (show L<(r:Rat) by grind)]
 ·rw[E7 a,Bool.false_or]at w;have:=of_decide_eq_true w;rw[E7 a,E7 (show ¬L<(r:Rat) by grind)]
end
section
variable{GM:Prop}{cx cy r:Int}{S:jO (fI cx) (fI cy) (fI r)}{hs:List Th}{n:Nat}{dK zK dM zM:Nat->Nat×Nat}{DK ZK DM ZM z w zm wm:Nat->Cp}{c:Th->Nat×Nat}{C:Th->Cp}{s:Th->Sd}{κ:Th->Cp}{v vM:Th->Nat->Nat×Nat}{V:Th->Nat->Cp}{wM:Th->Nat->Nat}{L:Th->Nat->Rat}(T:Dat GM S hs n dK zK dM zM DK ZK DM ZM z w zm wm c C s κ v vM V wM L)
def mT(L:Th->Nat->Rat)(n:Nat)(h:Th):Rat:=rsm (λk=>1017/1000*L h k) n/(n:Rat)
theorem cAa(i:Nat):mH hs L n i=mT L n (Hn hs i):=rfl
theorem xB(hs:List Th):(List.range hs.length).map (Hn hs)=hs:=by
 refine List.ext_getElem (by simp) λi h1 h2=>?_
 rw[List.getElem_map,List.getElem_range];unfold Hn;rw[List.getD_eq_getElem?_getD,List.getElem?_eq_getElem h2];rfl
include T
theorem sO{h:Th}(hm:h∈hs):1<=(s h).W/\0<=mT L n h/\Nm (κ h) (600*mT L n h/(s h).W)/\(mT L n h=0\/(2:Rat)^(-200:Int)<=mT L n h):=by
 have e:=T.E h hm;obtain⟨B,b1,b2⟩:=aFp T.P.pz T.P.pw T.P.zw (aC0 T) e.side e.elw;have W1:1<=(s h).W:=by
  have ok:=e.side.ok;revert ok;cases s h with
  |inn b qb q=>exact λok=>(gH T.P.pz.one (kN ok.1 q) (T.P.pw.at_ 0 (aC0 T))).2
  |out l=>exact λok=>(gH T.P.pz.one ok.1 (T.P.pz.at_ 0 (aC0 T))).2
 have m0:=e.elw.m0 (aC0 T);refine⟨W1,m0,b1.mono (bIh (by grind) b2),?_⟩;have hn:=nR T;have x2:(n:Rat)*mT L n h=0\/(2:Rat)^(-180:Int)<=(n:Rat)*mT L n h:=by rw[show(n:Rat)*mT L n h=rsm (λk=>1017/1000*L h k) n from(yQ (aC0 T)).symm];exact wD λk hk=>⟨bU (by decide +kernel) (e.L0 k hk),kB (by decide +kernel) (e.L0 k hk) (e.fL k hk)⟩
 rcases aOq T hn (bG _) x2 with a|a;· exact .inl a
 ·right;refine cR ?_ a;have e:(2:Rat)^(-180:Int)=(2:Rat)^(-200:Int)*(2:Rat)^(20:Int):=by rw[<-bO];rfl
  rw[e,show(2:Rat)^(20:Int)=1048576 by rw[show(20:Int)=((20:Nat):Int) by rfl,cN];rfl];have:=bG (-200);generalize (2:Rat)^(-200:Int)=q at *
  grind
theorem bQ0:MH hs L n=lsr (mT L n) hs:=by have h:=uB (mT L n) (Hn hs) (λ_=>true) hs.length;rw[aBc,xB]at h;exact h.symm
theorem pK(p:Th->Bool):lsr (mT L n) (hs.filter p)<=MH hs L n:=by
 have h:=uB (mT L n) (Hn hs) p hs.length;rw[xB]at h;rw[h];refine pP λi hi=>?_
 have:=(sO T (oJ hi)).2.1;rw[cAa];cases p (Hn hs i);· exact this
 ·exact R9
end
theorem aDj{R:Rat}{γ:Cp}{h:Th}{b:Bool}{c:Nat×Nat}{C κ:Cp}{s:Sd}(D:Dsc R γ h b c C s κ)(k:h.kind=2):(∀(T:Type)(K:KNN T),eQ T (fI h.s) (fI h.t) 4594902181429758083 K=K c.1 c.2)/\IsZ c.1 c.2 C:=by
 cases D with
 |stream k'=>rw[k]at k';cases k'
 |srcI c C k hc iC lC nC hγ=>exact⟨hc,iC⟩
 |srcO c C k hc iC lC nC hγ=>exact⟨hc,iC⟩
 |dblI m k' m1 m8 hp hγ=>rw[k]at k';cases k'
 |dblO m k' m1 m8 hp hγ=>rw[k]at k';cases k'
 |cor m k' m1 m4 hp=>rw[k]at k';cases k'
section
variable{GM:Prop}{cx cy r:Int}{S:jO (fI cx) (fI cy) (fI r)}{hs:List Th}{n:Nat}{dK zK dM zM:Nat->Nat×Nat}{DK ZK DM ZM z w zm wm:Nat->Cp}{c:Th->Nat×Nat}{C:Th->Cp}{s:Th->Sd}{κ:Th->Cp}{v vM:Th->Nat->Nat×Nat}{V:Th->Nat->Cp}{wM:Th->Nat->Nat}{L:Th->Nat->Rat}(T:Dat GM S hs n dK zK dM zM DK ZK DM ZM z w zm wm c C s κ v vM V wM L)
include T
theorem aLo(b:Bool):aD Tryz.prog 38 [cW 0 (els hs).length (els hs).length,ciV (fI cx) (fI cy) (fI r),.bool b] ⟨1,[(0,.cells (cellsOf (els hs)) 4)]⟩ (.int .i64 0):=by rw[jZ];exact T.good.clean b
end
open Go.Vm Ieee
theorem bIq{F:Cp}{n c:Rat}(hn:0<n)(h:Nm (C9 n*F) (n*c)):Nm F c:=by
 have c0:0<=c:=Rat.not_lt.1 λhc=>by have:=Rat.mul_lt_mul_of_pos_left hc hn;have:=h.1;grind
 refine⟨c0,?_⟩;have h2:=h.2;rw[uD]at h2;have nn:=Rat.mul_pos hn hn;refine Rat.not_lt.1 λhl=>?_
 have:=Rat.mul_lt_mul_of_pos_left hl nn;grind
theorem bM9(x:Rat):∀n,(C9 x).pw n=C9 (x^n)
 |0=>by rw[Rat.pow_zero];rfl
 |n+1=>by show(C9 x).pw n*C9 x=_;rw[bM9 x n,Rat.pow_succ,Cp.of_mul_of]
section
variable{n:Nat}{z w:Nat->Cp}(hz:Pts lD uL n z)(hw:Pts lD uL n w)(hzw:∀k,k<n->z k*w k=O9)(hn:0<n)
include hz hw hzw hn
theorem aRy{b:Cp}{q:Nat}{l:List Fc}(hs:(Sd.inn b qB q).Ok lD)(ht:(Sd.out l).Ok lD):Nm (Fv b l q) (1001/1000*((Sd.inn b qB q).W*(Sd.out l).W)):=by
 have h:=aS8 hz hw hzw hn hs ht;have n0:(0:Rat)<(n:Rat):=by exact_mod_cast hn
 have W1:1<=(Sd.inn b qB q).W:=(gH hz.one (kN hs.1 q) (hw.at_ 0 hn)).2;have W2:1<=(Sd.out l).W:=(gH hz.one ht.1 (hz.at_ 0 hn)).2;have a:Nm (csm (λk=>z k*((Sd.inn b qB q).at_ (z k) (w k)*(Sd.out l).at_ (z k) (w k))) n) ((n:Rat)*((1+1/100000)*((Sd.inn b qB q).W*(Sd.out l).W))):=by
  refine aHh λk hk=>?_
  show Nm (z k*(inV b qB q (w k)*cC l (z k))) _;rw[bEe hz hw hzw hn hs.2.1 hk];exact(aMi hz hw hzw hn hw (by have:=hs.2.2;omega) hk).mul (((gH hz.one (kN hs.1 q) (hw.at_ k hk)).1).mul (gH hz.one ht.1 (hz.at_ k hk)).1)
 have k:=h.comm.near a;refine bIq n0 (k.mono ?_);have ww:=aC W1 W2 (by decide) (by grind);have e1:=bJq;have e2:=dI e1 (show 0<=(Sd.inn b qB q).W*(Sd.out l).W by grind);generalize (Sd.inn b qB q).W*(Sd.out l).W=X at *
 have:=dI (show X*EE+(1+1/100000)*X<=1001/1000*X by grind) (bN n0);grind
end
def nuH(h:Th):Nat:=if h.kind=2 then 0 else h.p.toNat
theorem bCm:∀m:Nat,m<5->1<=m->eqF (aF4 (wrd m)) (wrd m)=true:=by decide +kernel
section
variable(R:Type)(a1 a2 s1 s2 p:Nat)(k:KBO R)
theorem cGj:sgK R 1 a1 a2 s1 s2 p k=cT cK cJ bJ eC R 1 a1 a2 s1 s2 p λe=>bif e != 0 then k false else k false:=rfl
theorem cGk:sgK R 2 a1 a2 s1 s2 p k=cT cK cJ bJ eC R 2 a1 a2 s1 s2 p λe=>bif e != 0 then k false else eQ R s1 s2 4594902181429758083 λ_ _=>k true:=rfl
theorem cGl:sgK R 3 a1 a2 s1 s2 p k=cT cK cJ bJ eC R 3 a1 a2 s1 s2 p λe=>bif e != 0 then k false else(J9 .f64 p .i64).bind λm=>aG R m λ_=>k true:=rfl
theorem cGm:sgK R 4 a1 a2 s1 s2 p k=cT cK cJ bJ eC R 4 a1 a2 s1 s2 p λe=>bif e != 0 then k false else eC R p λt=>bif t then(J9 .f64 p .i64).bind λm=>aG R m λ_=>k false else bif ltF p 4607182418800017408 then k true else k false:=rfl
end
section
variable{cx cy r:Int}{hs:List Th}{n:Int}{S:jO (fI cx) (fI cy) (fI r)}
theorem bUn(g:Vm.Good S hs n){h:Th}(hm:h∈hs)(k:h.kind=2):h.p=0:=by
 have c:=bKo g hm;have hp:=(g.fine h hm).pow;rw[k]at c;unfold tT at c;have ip:Is (fI h.p) (h.p:Rat):=jF (by omega);rw[qT ip (by simpa using hJ)]at c;by_cases e:(h.p:Rat)=0;· exact_mod_cast e
 ·rw[E7 e]at c;revert c;cases leF (wV (fI h.p)) 4787326403894837248<;>simp
theorem cBh(g:Vm.Good S hs n){h:Th}(hm:h∈hs)(hc:h.kind=2->∃c1 c2,∀(T:Type)(K:KNN T),eQ T (fI h.s) (fI h.t) 4594902181429758083 K=K c1 c2):bJ1 (fI cx) (fI cy) (fI r) (gV S h) h.el:=λR yes no=>by
 have f:=g.fine h hm;have hp:=f.pow;have E:=eld g hm;have ip:Is (fI h.p) (h.p:Rat):=jF (by omega);have ti:J9 .f64 (fI h.p) .i64=some h.p:=xR ip (by omega);show wiX sgK (siC (aGb gJ cQ)) h.kind (fI h.x) (fI h.y) (fI h.s) (fI h.t) (fI h.p) (fI cx) (fI cy) (fI r) yes no=_;have see:∀k:Nat->Option R,aGb gJ cQ R (fI h.x) (fI h.y) (fI cx) (fI cy) k=k (S.lw h.el):=g.see h f R;have si:(h.kind=2\/h.kind=3)->siC (aGb gJ cQ) R h.kind (fI h.x) (fI h.y) (fI cx) (fI cy) (fI r) (λv=>bif decide (v<0) then yes else no)=bif gV S h then yes else no:=λhk=>by
  show aGb gJ cQ R (fI h.x) (fI h.y) (fI cx) (fI cy) (λl=>bif h.kind==1 then(bif decide ((0:Int)<0) then yes else no) else bif ltF l (fI r) then(bif decide ((-1:Int)<0) then yes else no) else(bif decide ((1:Int)<0) then yes else no))=_;rw[see,aZn g hm hk];unfold gV;rcases hk with k|k;· rw[k];show(bif leF (S.lw h.el) (xU (fI r)) then yes else no)=bif(true&&leF (S.lw h.el) (xU (fI r))) then yes else no;rw[Bool.true_and]
  ·rw[k];show(bif leF (S.lw h.el) (xU (fI r)) then yes else no)=bif(true&&leF (S.lw h.el) (xU (fI r))) then yes else no;rw[Bool.true_and]
 unfold wiX;rcases aOw g hm with k|k|⟨k,m,m1,m8,hpm⟩|⟨k,m,m1,m4,hpm⟩
 ·have ib:gV S h=false:=by unfold gV;rw[k];rfl
  rw[ib];rw[k]at E⊢;rw[cGj,E.chk];rfl
 ·have s:=si (.inl k);rw[<-s];obtain⟨c1,c2,hc⟩:=hc k;rw[k]at E⊢;rw[cGk,E.chk];show(bif(0:Int) != 0 then _ else eQ R (fI h.s) (fI h.t) 4594902181429758083 _)=_;rw[hc];rfl
 ·have s:=si (.inr k);rw[<-s];rw[k]at E⊢;rw[cGl,E.chk,ti];show(bif(0:Int) != 0 then _ else aG R h.p _)=_;rw[iK];rfl
 ·have ib:gV S h=false:=by unfold gV;rw[k];rfl
  have wm':fI h.p=wrd m:=by rw[hpm];exact aXy m m1 (by omega)
  rw[ib];rw[k]at E⊢;rw[cGm,E.chk,aF3 ip,ti];rw[wm',bCm m (by omega) m1];show(bif(0:Int) != 0 then _ else bif true then aG R h.p _ else _)=_;rw[iK];rfl
end
def Fx(h:Th)(C:Cp):Cp:=if h.kind=2 then C else C9 (-((mP (nuH h-1):Rat))⁻¹)*gz h.s h.t
theorem aRi:∀n,1<=mP n
 |0=>Nat.le_refl 1
 |n+1=>by have:=aRi n;show 1<=(n+1)*mP n;exact Nat.le_trans this (Nat.le_mul_of_pos_left _ (by omega))
theorem aIu(n:Nat):(1:Rat)<=(mP n:Rat):=by exact_mod_cast aRi n
theorem bY9{R:Rat}{γ:Cp}{h:Th}{c:Nat×Nat}{C κ:Cp}{s:Sd}(hR:R≠0)(D:Dsc R γ h true c C s κ):s=.inn γ qB (nuH h+1)/\Fx h C*(C9 (mP (nuH h):Rat)*(C9 R⁻¹).pw (nuH h))=C9 R*κ/\nuH h<=8/\Nm γ (5075/10000):=by
 generalize hb:true=b at D;cases D with
 |stream k=>cases hb
 |srcO c C k hc iC lC nC hγ=>cases hb
 |dblO m k m1 m8 hp hγ=>cases hb
 |cor m k m1 m4 hp=>cases hb
 |srcI c C k hc iC lC nC hγ=>
  have e:nuH h=0:=by unfold nuH;rw[if_pos k]
  refine⟨by rw[e],?_,by omega,hγ⟩;unfold Fx;rw[if_pos k,e];show C*(C9 ((1:Nat):Rat)*O9)=C9 R*(C*(O9*C9 R⁻¹));rw[Cp.mul_one,show C9 ((1:Nat):Rat)=O9 from rfl,Cp.mul_one,Cp.one_mul,Cp.mul_comm C,aE8 hR]
 |dblI m k m1 m8 hp hγ=>
  have kn:¬h.kind=2:=by rw[k];decide
  have e:nuH h=m:=by unfold nuH;rw[if_neg kn,hp];rfl
  refine⟨by rw[e],?_,by omega,hγ⟩;unfold Fx;rw[if_neg kn,e,aI9];obtain⟨j,rfl⟩:∃j,m=j+1:=⟨m-1,by omega⟩;rw[show j+1-1=j from rfl];have fj:=aIu j;have e2:((mP (j+1):Nat):Rat)=((j+1:Nat):Rat)*(mP j:Rat):=by show(((j+1)*mP j:Nat):Rat)=_;push_cast;rfl
  have e3:-((mP j:Rat))⁻¹*((mP (j+1):Nat):Rat)=((-((j+1:Nat):Int):Int):Rat):=by
   rw[e2];have:=Rat.inv_mul_cancel _ (show(mP j:Rat)≠0 by grind);generalize (mP j:Rat)⁻¹=i at *
   push_cast;grind
  have e4:C9 R*(C9 R⁻¹).pw (j+1+1)=(C9 R⁻¹).pw (j+1):=by show C9 R*((C9 R⁻¹).pw (j+1)*C9 R⁻¹)=_;rw[Cp.mul_comm ((C9 R⁻¹).pw (j+1)),aE8 hR]
  rw[<-e4];generalize (C9 R⁻¹).pw (j+1+1)=X;have e5:C9 (-((mP j:Rat))⁻¹)*gz h.s h.t*(C9 ((mP (j+1):Nat):Rat)*(C9 R*X))=(C9 (-((mP j:Rat))⁻¹)*C9 ((mP (j+1):Nat):Rat))*(C9 R*(gz h.s h.t*X)):=by simp only[M9,Cp.mul_left_comm,Cp.mul_comm]
  rw[e5,<-Cp.of_mul_of,e3];simp only[M9,Cp.mul_left_comm,Cp.mul_comm]
theorem bSh{c x:Rat}(hc:1/1000<=c)(h:x=0\/(2:Rat)^(-390:Int)<=x):Fit (c*x):=by
 rcases h with h|h;· left;rw[h];grind
 ·right;have e:=aC hc h (bN (bG (-390))) (cR (by decide +kernel) hc);have e2:(2:Rat)^(-390:Int)=(2:Rat)^(-400:Int)*(2:Rat)^(10:Int):=by rw[<-bO];rfl
  rw[e2,show(2:Rat)^(10:Int)=1024 by rw[show(10:Int)=((10:Nat):Int) by rfl,cN];rfl]at e;have:=bG (-400);generalize (2:Rat)^(-400:Int)=p at *
  grind
theorem tY{c x:Rat}(hc:1/1000000000000000000000000000<=c)(h:x=0\/(2:Rat)^(-200:Int)<=x):Fit (c*x):=by
 rcases h with h|h;· left;rw[h];grind
 ·right;have e:=aC hc h (bN (bG (-200))) (cR (by decide +kernel) hc);have e2:(2:Rat)^(-200:Int)=(2:Rat)^(-300:Int)*(2:Rat)^(100:Int):=by rw[<-bO];rfl
  rw[e2,show(2:Rat)^(100:Int)=1267650600228229401496703205376 by rw[show(100:Int)=((100:Nat):Int) by rfl,cN];rfl]at e;have:=bG (-300);have q:=cY (show(-400:Int)<=-300 by decide);refine cR q ?_;generalize (2:Rat)^(-300:Int)=p at *
  grind
theorem bM4{a b:Nat}{A:Cp}(h:IsZ a b A):∃p q,IsZ p q (-A)/\∀(R:Type)(k:KNN R),sU R a b k=k p q:=
 ⟨_,_,⟨wJ h.1,wJ h.2⟩,λR k=>by unfold sU;rw[cB,cB]⟩
theorem bU0{R:Rat}{γ:Cp}{h:Th}{c:Nat×Nat}{C κ:Cp}{s:Sd}(f:qW h)(D:Dsc R γ h true c C s κ){z:Nat×Nat}{O:Cp}{ρ σ:Rat}(iO:IsZ z.1 z.2 O)(nO:Nm O σ)(nF:Nm (Fx h C) ρ)(fρ:Fit ρ)(fσ:Fit σ)(fp:ρ*σ=0\/(2:Rat)^(-390:Int)<=ρ*σ)(big:ρ*σ<=100000000000000000000000000000000000000000000000000):
  ∃(q:Nat×Nat)(Q:Cp),IsZ q.1 q.2 Q/\Nm (Q-Fx h C*O) (3*eps*(ρ*σ))/\bQ2 h.el (nuH h:Int) z q:=by
 have ep:=bI;have et:=bR;have ρ0:=nF.1;have σ0:=nO.1;have p0:=bU ρ0 σ0;have ep0:=bU (bN ep) p0;generalize hb:true=bb at D;cases D with
 |stream k=>cases hb
 |srcO c C k hc iC lC nC hγ=>cases hb
 |dblO m k m1 m8 hp hγ=>cases hb
 |cor m k m1 m4 hp=>cases hb
 |srcI c C k hc iC lC nC hγ=>
  have e:Fx h C=C:=by unfold Fx;rw[if_pos k]
  rw[e]at nF⊢;obtain⟨p,q,P,iP,dP,hP⟩:=mY iC iO nF nO (by rw[bZ];grind) fρ fσ;refine⟨(p,q),P,iP,dP.mono (by grind),λR' K=>?_⟩;show(bif h.kind==2 then reH R' (fI h.s) (fI h.t) λu1 u2=>dV R' u1 u2 z.1 z.2 K else _)=_;rw[k];show eQ R' (fI h.s) (fI h.t) 4594902181429758083 (λu1 u2=>dV R' u1 u2 z.1 z.2 K)=_;rw[hc];exact hP R' K
 |dblI m k m1 m8 hp hγ=>
  have kn:¬h.kind=2:=by rw[k];decide
  have en:nuH h=m:=by unfold nuH;rw[if_neg kn,hp];rfl
  obtain⟨j,rfl⟩:∃j,m=j+1:=⟨m-1,by omega⟩;have eF:Fx h (gz h.s h.t)=C9 (-((mP j:Rat))⁻¹)*gz h.s h.t:=by unfold Fx;rw[if_neg kn,en];rfl
  rw[eF]at nF⊢;obtain⟨t1,t2,t3⟩:=bO6 j (by omega);have fj:=aIu j;have f5:(mP j:Rat)<=5040:=by
   have:∀j:Nat,j<8->mP j<=5040:=by decide
   exact_mod_cast this j (by omega)
  generalize hi:(mP j:Rat)⁻¹=ι at *
  have fι:(mP j:Rat)*ι=1:=by rw[<-hi];exact Rat.mul_inv_cancel _ (by grind)
  have ι0:0<ι:=by rw[<-hi];exact Rat.inv_pos.2 (by grind)
  have ι1:ι<=1:=by have:=cG fj (bN ι0);grind
  have iw:Is (fI ((mP j:Nat):Int)) (((mP j:Nat):Int):Rat):=jF (by omega);rw[show(((mP j:Nat):Int):Rat)=(mP j:Rat) by norm_cast]at iw;generalize (mP j:Rat)=φ at *
  obtain⟨a1,a2,iA,hA⟩:=bM4 (aJc f.st);have eA:-gz h.s h.t=C9 φ*(C9 (-ι)*gz h.s h.t):=by rw[<-M9,<-Cp.of_mul_of,show φ*-ι=-1 by grind];exact E9 (by simp only[Cp.neg_re,Cp.mul_re,Cp.of_re,Cp.of_im];grind) (by simp only[Cp.neg_im,Cp.mul_im,Cp.of_re,Cp.of_im];grind)
  have nA:Nm (-gz h.s h.t) (φ*ρ):=by rw[eA];exact(oV (by rw[fZ (by grind)];exact R9)).mul nF
  have φp:=aC f5 big p0 (by decide);obtain⟨p,q,P,iP,dP,hP⟩:=mY iA iO nA nO (by rw[bZ];grind) (kB fj ρ0 fρ) fσ;have nP:Nm P (1001/1000*(φ*(ρ*σ))):=(dP.near (nA.mul nO)).mono (by
   have h1:=bU (show 0<=φ by grind) p0;have:=cG et h1;rw[Rat.mul_assoc φ ρ σ];clear fp big φp eA nA fι f5 fj hi fρ fσ;generalize φ*(ρ*σ)=X at *
   clear nF nO iO dP hP;grind)
  have q1:(1:Rat)/φ=ι:=by rw[Rat.div_def,hi];grind
  have iw1:Is 4607182418800017408 (1:Rat):=by simpa using bXz
  obtain⟨ω,Ω,eω,iω,rω⟩:=tU iw1 iw (by grind) (bMs (by rw[q1,fZ (bN ι0)];grind));rw[q1]at rω;have ιlow:1/5040<=ι:=by
   refine Rat.not_lt.1 λhl=>?_
   have:=Rat.mul_lt_mul_of_pos_left hl (show 0<φ by grind);grind
  have dω:=aTl rω (B:=ι) (by rw[fZ (bN ι0)];exact R9) (cR mZ (by grind));have aω:=aA.1 dω;have eι:=cG et (bN ι0);have Ω0:0<=Ω:=by grind
  have Ωa:Ω.abs=Ω:=fZ Ω0;have Ω1:Ω<=1001/1000*ι:=by grind
  have Ω2:999/1000*ι<=Ω:=by grind
  have φΩ1:φ*Ω<=1001/1000:=by have:=dI Ω1 (show 0<=φ by grind);grind
  have φΩ2:999/1000<=φ*Ω:=by have:=dI Ω2 (show 0<=φ by grind);grind
  have eB:1001/1000*(φ*(ρ*σ))*Ω.abs=1001/1000*(φ*Ω)*(ρ*σ):=by rw[Ωa];grind
  obtain⟨u1,u2,Q,iQ,dQ,hQ⟩:=tG iP iω nP (by rw[eB];exact bSh (by grind) fp) (by rw[eB,bZ];have:=aC (show 1001/1000*(φ*Ω)<=2 by grind) big p0 (by decide);grind);refine⟨(u1,u2),Q,iQ,?_,λR' K=>?_⟩
  ·have k1:Nm (C9 (Ω-ι)*P) (eps/2*ι*(1001/1000*(φ*(ρ*σ)))):=(oV dω).mul nP;have k2:Nm (C9 ι*(P - -gz h.s h.t*O)) (ι*(eps*(φ*ρ*σ))):=(oV (by rw[fZ (bN ι0)];exact R9)).mul dP;have k3:=dQ.add (k1.add k2);have ee:Q-C9 Ω*P+(C9 (Ω-ι)*P+C9 ι*(P - -gz h.s h.t*O))=Q-C9 (-ι)*gz h.s h.t*O:=by
    generalize gz h.s h.t=G;refine E9 ?_ ?_;· simp only[Cp.add_re,S9,Cp.neg_re,Cp.mul_re,Cp.mul_im,Cp.of_re,Cp.of_im,T9,Cp.neg_im];grind
    ·simp only[Cp.add_im,S9,Cp.neg_re,Cp.mul_re,Cp.mul_im,Cp.of_re,Cp.of_im,T9,Cp.neg_im];grind
   rw[ee]at k3;refine k3.mono ?_;rw[eB];have v1:eps/2*ι*(1001/1000*(φ*(ρ*σ)))=1001/2000*(eps*(ρ*σ))*(φ*ι):=by grind
   have v2:ι*(eps*(φ*ρ*σ))=eps*(ρ*σ)*(φ*ι):=by grind
   rw[v1,v2,fι];have v3:=cG φΩ1 ep0;grind
  ·show(bif h.kind==2 then _ else sU R' (fI h.s) (fI h.t) λu1 u2=>dV R' u1 u2 z.1 z.2 λv1 v2=>gF R' 1 ((nuH h:Int)-1) λw=>aM (fbF .quo 4607182418800017408 w) λw=>eQ R' v1 v2 w K)=_;rw[k,en];show sU R' (fI h.s) (fI h.t) _=_;rw[hA,hP,sM t1,aK eω];exact hQ R' K
def aPs:Sd->List Fc
 |.out L=>L
 |.inn _ _ _=>[]
theorem bUm{R:Rat}{γ:Cp}{h:Th}{c:Nat×Nat}{C κ:Cp}{s:Sd}(D:Dsc R γ h false c C s κ):s=.out (aPs s):=by generalize hb:false=bb at D;cases D<;>first|rfl|cases hb
def pH(r:Int)(X:Th):Rat:=(mP (nuH X):Rat)*((r:Rat)⁻¹)^(nuH X)
def dXY(cx cy r:Int)(κ:Th->Cp)(s:Th->Sd)(X Y:Th):Cp:=κ Y*(C9 (mP (nuH X):Rat)*(C9 ((r:Rat))⁻¹).pw (nuH X))*Fv (gmm cx cy r X) (aPs (s Y)) (nuH X+1)
theorem bB0(r:Int)(X:Th):C9 (mP (nuH X):Rat)*(C9 ((r:Rat))⁻¹).pw (nuH X)=C9 (pH r X):=by unfold pH;rw[bM9,<-Cp.of_mul_of]
theorem aT7{r:Int}{X:Th}(R1:(1:Rat)<=(r:Rat))(R2:(r:Rat)<=2000)(h8:nuH X<=8):1/1000000000000000000000000000<=pH r X/\pH r X<=40320:=by
 have f1:=aIu (nuH X);have f2:(mP (nuH X):Rat)<=40320:=by
  have:∀j:Nat,j<9->mP j<=40320:=by decide
  exact_mod_cast this _ (by omega)
 have i0:0<((r:Rat))⁻¹:=Rat.inv_pos.2 (by grind);have ri:=Rat.mul_inv_cancel (r:Rat) (by grind);have i1:((r:Rat))⁻¹<=1:=by have:=cG R1 (bN i0);grind
 have i2:1/2000<=((r:Rat))⁻¹:=by have:=cG R2 (bN i0);grind
 have p1:((r:Rat)⁻¹)^(nuH X)<=1:=by have:=vI (bN i0) i1 (nuH X);rwa[pM]at this
 have p2:((1:Rat)/2000)^(nuH X)<=((r:Rat)⁻¹)^(nuH X):=vI (by decide +kernel) i2 _;have p3:∀j:Nat,j<9->(1:Rat)/1000000000000000000000000000<=(1/2000)^j:=by decide +kernel
 have p4:=p3 (nuH X) (by omega);have p0:0<=((r:Rat)⁻¹)^(nuH X):=Rat.pow_nonneg (bN i0);unfold pH;constructor;· have:=cG f1 p0;grind
 ·have:=aC f2 p1 p0 (by decide);grind
section
variable{GM:Prop}{cx cy r:Int}{S:jO (fI cx) (fI cy) (fI r)}{hs:List Th}{n:Nat}{dK zK dM zM:Nat->Nat×Nat}{DK ZK DM ZM z w zm wm:Nat->Cp}{c:Th->Nat×Nat}{C:Th->Cp}{s:Th->Sd}{κ:Th->Cp}{v vM:Th->Nat->Nat×Nat}{V:Th->Nat->Cp}{wM:Th->Nat->Nat}{L:Th->Nat->Rat}(T:Dat GM S hs n dK zK dM zM DK ZK DM ZM z w zm wm c C s κ v vM V wM L)
include T
theorem Rne:(r:Rat)≠0:=by have:=Rq T;grind
theorem oS{X:Th}(hm:X∈hs)(hi:gV S X=true):s X=.inn (gmm cx cy r X) qB (nuH X+1)/\Fx X (C X)*C9 (pH r X)=C9 (r:Rat)*κ X/\nuH X<=8/\Nm (gmm cx cy r X) (5075/10000)/\Dsc (r:Rat) (gmm cx cy r X) X true (c X) (C X) (s X) (κ X):=by have D:=T.D X hm;rw[hi]at D;obtain⟨a,b,d,e⟩:=bY9 (Rne T) D;exact⟨a,by rw[<-bB0];exact b,d,e,D⟩
theorem tL{Y:Th}(hm:Y∈hs)(hi:gV S Y=false):s Y=.out (aPs (s Y)):=by have D:=T.D Y hm;rw[hi]at D;exact bUm D
theorem bNi{X Y:Th}(hX:X∈hs)(hY:Y∈hs)(iX:gV S X=true)(iY:gV S Y=false):Fx X (C X)*dXY cx cy r κ s X Y=C9 (r:Rat)*(κ X*κ Y*(s X).pairG (s Y)):=by
 obtain⟨a,b,_,_,_⟩:=oS T hX iX;have o:=tL T hY iY;have e:(s X).pairG (s Y)=Fv (gmm cx cy r X) (aPs (s Y)) (nuH X+1):=by rw[a,o];rfl
 rw[e];unfold dXY;rw[bB0];generalize Fv (gmm cx cy r X) (aPs (s Y)) (nuH X+1)=F;have e2:Fx X (C X)*(κ Y*C9 (pH r X)*F)=(Fx X (C X)*C9 (pH r X))*(κ Y*F):=by simp only[M9,Cp.mul_left_comm,Cp.mul_comm]
 rw[e2,b];simp only[M9,Cp.mul_left_comm,Cp.mul_comm]
theorem bQy:C9 (r:Rat)*G2 hs s κ=C9 2*lsm (λX=>Fx X (C X)*lsm (dXY cx cy r κ s X) (hs.filter λh=>!gV S h)) (hs.filter (gV S)):=by
 have hl:=λX=>oF (dXY cx cy r κ s X) (Hn hs) (λh=>!gV S h) hs.length
 have hl2:=oF (λX=>Fx X (C X)*lsm (dXY cx cy r κ s X) (hs.filter λh=>!gV S h)) (Hn hs) (gV S) hs.length;rw[xB]at hl2;simp only[xB]at hl;rw[hl2]
 let A:Nat->Nat->Cp:=λi j=>bif gV S (Hn hs i) && !gV S (Hn hs j) then κ (Hn hs i)*κ (Hn hs j)*(s (Hn hs i)).pairG (s (Hn hs j)) else Z9
 have e1:G2 hs s κ=csm (λi=>csm (λj=>A i j) hs.length) hs.length+csm (λi=>csm (λj=>A j i) hs.length) hs.length:=by
  unfold G2;rw[<-oN];refine cA λi hi=>?_
  rw[<-oN];refine cA λj hj=>?_
  have mi:=oJ hi;have mj:=oJ hj;show _=(bif gV S (Hn hs i) && !gV S (Hn hs j) then _ else Z9)+(bif gV S (Hn hs j) && !gV S (Hn hs i) then _ else Z9);cases a:gV S (Hn hs i) with
  |true=>
   cases b:gV S (Hn hs j) with
   |true=>show _=Z9+Z9;rw[(oS T mi a).1,(oS T mj b).1];show _*Z9=_;rw[Cp.mul_zero,Cp.add_zero]
   |false=>show _=_+Z9;rw[Cp.add_zero];rfl
  |false=>
   cases b:gV S (Hn hs j) with
   |true=>show _=Z9+_;rw[Cp.zero_add];show _=κ (Hn hs j)*κ (Hn hs i)*(s (Hn hs j)).pairG (s (Hn hs i));rw[(oS T mj b).1,tL T mi a,Cp.mul_comm (κ (Hn hs i))];rfl
   |false=>show _=Z9+Z9;rw[tL T mi a,tL T mj b];show _*Z9=_;rw[Cp.mul_zero,Cp.add_zero]
 have e2:csm (λi=>csm (λj=>A j i) hs.length) hs.length=csm (λi=>csm (λj=>A i j) hs.length) hs.length:=zI (λi k=>A i k) hs.length hs.length;have e3:C9 (r:Rat)*csm (λi=>csm (λj=>A i j) hs.length) hs.length=csm (λi=>bif gV S (Hn hs i) then Fx (Hn hs i) (C (Hn hs i))*lsm (dXY cx cy r κ s (Hn hs i)) (hs.filter λh=>!gV S h) else Z9) hs.length:=by
  rw[kQ];refine cA λi hi=>?_
  have mi:=oJ hi;cases a:gV S (Hn hs i) with
  |true=>
   rw[T7,hl,kQ,kQ];refine cA λj hj=>?_
   have mj:=oJ hj;show C9 (r:Rat)*(bif gV S (Hn hs i) && !gV S (Hn hs j) then _ else Z9)=_;rw[a];cases b:gV S (Hn hs j) with
   |true=>show C9 (r:Rat)*Z9=_*Z9;rw[Cp.mul_zero,Cp.mul_zero]
   |false=>exact(bNi T mi mj a b).symm
  |false=>
   rw[F7];have:csm (λj=>A i j) hs.length=csm (λ_=>Z9) hs.length:=cA λj hj=>by show(bif gV S (Hn hs i) && !gV S (Hn hs j) then _ else Z9)=_;rw[a];rfl
   rw[this,zJ,Cp.mul_zero]
 rw[e1,e2,<-e3];generalize csm (λi=>csm (λj=>A i j) hs.length) hs.length=X;refine E9 ?_ ?_;· simp only[Cp.mul_re,Cp.of_re,Cp.of_im,Cp.add_re,Cp.add_im,Cp.mul_im];grind
 ·simp only[Cp.mul_im,Cp.of_re,Cp.of_im,Cp.add_re,Cp.add_im,Cp.mul_re];grind
theorem bRy{X Y:Th}(hX:X∈hs)(hY:Y∈hs)(iX:gV S X=true)(iY:gV S Y=false):Nm (dXY cx cy r κ s X Y) (6006/10*(pH r X*(s X).W)*mT L n Y):=by
 obtain⟨R1,R2⟩:=Rq T;obtain⟨a,b,h8,_,_⟩:=oS T hX iX;have o:=tL T hY iY;obtain⟨W1,mX0,bX,_⟩:=sO T hX;obtain⟨W2,mY0,bY,_⟩:=sO T hY;have okX:=(T.E X hX).side.ok;have okY:=(T.E Y hY).side.ok;have t0:=aT7 R1 R2 h8;have fv:Nm (Fv (gmm cx cy r X) (aPs (s Y)) (nuH X+1)) (1001/1000*((s X).W*(s Y).W)):=by rw[a]at okX⊢;rw[o]at okY;have:=aRy T.P.pz T.P.pw T.P.zw (aC0 T) okX okY;rw[<-o]at this;exact this
 unfold dXY;rw[bB0];have k:=(bY.mul (oV (x:=pH r X) (r:=pH r X) (by rw[fZ (by grind)];exact R9))).mul fv;refine k.mono ?_;have e:600*mT L n Y/(s Y).W*pH r X*(1001/1000*((s X).W*(s Y).W))=(600*mT L n Y/(s Y).W*(s Y).W)*(pH r X*(1001/1000*(s X).W)):=by grind
 rw[e,Rat.div_mul_cancel (by grind)];grind
theorem aQx{X:Th}(hX:X∈hs)(iX:gV S X=true):Nm (Fx X (C X)) ((r:Rat)/pH r X*(600*mT L n X/(s X).W)):=by
 obtain⟨R1,R2⟩:=Rq T;obtain⟨a,b,h8,_,_⟩:=oS T hX iX;obtain⟨W1,mX0,bX,_⟩:=sO T hX;have t0:=aT7 R1 R2 h8;have e:Fx X (C X)=C9 ((r:Rat)/pH r X)*κ X:=by
  have h:C9 (pH r X)⁻¹*(Fx X (C X)*C9 (pH r X))=C9 (pH r X)⁻¹*(C9 (r:Rat)*κ X):=by rw[b]
  have e1:C9 (pH r X)⁻¹*(Fx X (C X)*C9 (pH r X))=(C9 (pH r X)⁻¹*C9 (pH r X))*Fx X (C X):=by simp only[M9,Cp.mul_left_comm,Cp.mul_comm]
  rw[e1,<-Cp.of_mul_of,Rat.inv_mul_cancel _ (by grind),show C9 1=O9 from rfl,Cp.one_mul,<-M9,<-Cp.of_mul_of]at h;rw[h,Rat.div_def,Rat.mul_comm]
 rw[e];have d0:0<=(r:Rat)/pH r X:=by rw[Rat.div_def];exact bU (by grind) (bN (Rat.inv_pos.2 (by grind)))
 exact(oV (by rw[fZ d0];exact R9)).mul bX
end
end Go.Vx
