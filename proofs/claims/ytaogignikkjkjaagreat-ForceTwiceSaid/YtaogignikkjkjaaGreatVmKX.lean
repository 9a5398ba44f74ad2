/- A part; no conditions. -/
import Derived.Test.YtaogignikkjkjaaGreatVmRA7
set_option maxRecDepth 1000000
set_option maxHeartbeats 1000000
set_option linter.all false
open Go.Proofs.Tryz renaming prog->P9
open Nat renaming beq->N9,le_refl->L9
open Rat renaming le_refl->R9
namespace Go.Vm
def sN(way:Ieee.Toward):KFF:=λR x k=>match Ieee.double.read x with
 |.nan _ _=>none
 |d=>bH (Ieee.double.write (d.integral way)) k
def aUd(tr:KFF):KFB:=λR p k=>tr R p λy=>aW (eqF y p) λt=>k t
def eC:KFB:=aUd (sN .zero)
def tA:KEI:=cT cK cJ bJ eC
def wyK:∀R:Type,Nat->Option R->Option R:=λR p x=>eC R p λt=>match t with|true=>x|false=>none
def wnK:∀R:Type,Nat->Option R->Option R:=λR p x=>eC R p λt=>match t with|true=>none|false=>x
def bQh:KFB:=λR x k=>cJ R x 4697254411347427328 λt=>aW t λt=>k t
def vJ:bC1:=aJ6 aG bQh (sN .even) aOz
def yV:bCu:=bPk vJ yC
def bYz:KFF:=cCx aG (sN .even) aKf wP
def bKl:KCC:=bRk bYz yV
def bNp:mO:=bU5 aJ1 eQ bKl
def lL:KW:=λR a b n k=>
 bif n==0 then k 4607182418800017408 0 else bif n==1 then k a b else bif n==2 then gR dV a b (pI 2) a b k else bif n==3 then gR dV a b (pI 3) a b k
 else bif n==4 then gR dV a b (pI 4) a b k else bif n==5 then gR dV a b (pI 5) a b k else bif n==6 then gR dV a b (pI 6) a b k
 else bif n==7 then gR dV a b (pI 7) a b k else bif n==8 then gR dV a b (pI 8) a b k else bif n==9 then gR dV a b (pI 9) a b k
 else bif n==10 then gR dV a b (pI 10) a b k else none
def vS1{R:Type}(a1 a2 s1 s2 p z1 z2:Nat)(er:KIO R)(ok:KNN R):Option R:=wU (cT cK cJ bJ eC) cK bJ gJ 1 p (λx=>x) a1 a2 s1 s2 z1 z2 er (λd1 d2=>(jI aP er ok) s1 s2) (λd1 d2=>(jI aP er ok) s1 s2)
def vO1{R:Type}(a1 a2 s1 s2 p z1 z2:Nat)(er:KIO R)(ok:KNN R):Option R:=bYc (cT cK cJ bJ eC) cK bJ gJ eQ a1 a2 s1 s2 p z1 z2 er (λc1 c2 d1 d2=>rN R c1 c2 d1 d2 (jI aP er ok))
def bGj{R:Type}(a1 a2 s1 s2 p z1 z2:Nat)(er:KIO R)(ok:KNN R):Option R:=wU (cT cK cJ bJ eC) cK bJ gJ 3 4607182418800017408 (λx=>x) a1 a2 s1 s2 z1 z2 er (λ_ _=>er 6) (λd1 d2=>vB rN eQ lL (some 13830554455654793216) 2 s1 s2 d1 d2 (jI aP er ok))
def bGk{R:Type}(a1 a2 s1 s2 p z1 z2:Nat)(er:KIO R)(ok:KNN R):Option R:=wU (cT cK cJ bJ eC) cK bJ gJ 3 4611686018427387904 (λx=>x) a1 a2 s1 s2 z1 z2 er (λ_ _=>er 6) (λd1 d2=>vB rN eQ lL (some 13835058055282163712) 3 s1 s2 d1 d2 (jI aP er ok))
def bGl{R:Type}(a1 a2 s1 s2 p z1 z2:Nat)(er:KIO R)(ok:KNN R):Option R:=wU (cT cK cJ bJ eC) cK bJ gJ 3 4613937818241073152 (λx=>x) a1 a2 s1 s2 z1 z2 er (λ_ _=>er 6) (λd1 d2=>vB rN eQ lL (some 13837309855095848960) 4 s1 s2 d1 d2 (jI aP er ok))
def bGm{R:Type}(a1 a2 s1 s2 p z1 z2:Nat)(er:KIO R)(ok:KNN R):Option R:=wU (cT cK cJ bJ eC) cK bJ gJ 3 4616189618054758400 (λx=>x) a1 a2 s1 s2 z1 z2 er (λ_ _=>er 6) (λd1 d2=>vB rN eQ lL (some 13839561654909534208) 5 s1 s2 d1 d2 (jI aP er ok))
def bGn{R:Type}(a1 a2 s1 s2 p z1 z2:Nat)(er:KIO R)(ok:KNN R):Option R:=wU (cT cK cJ bJ eC) cK bJ gJ 3 4617315517961601024 (λx=>x) a1 a2 s1 s2 z1 z2 er (λ_ _=>er 6) (λd1 d2=>vB rN eQ lL (some 13840687554816376832) 6 s1 s2 d1 d2 (jI aP er ok))
def bGo{R:Type}(a1 a2 s1 s2 p z1 z2:Nat)(er:KIO R)(ok:KNN R):Option R:=wU (cT cK cJ bJ eC) cK bJ gJ 3 4618441417868443648 (λx=>x) a1 a2 s1 s2 z1 z2 er (λ_ _=>er 6) (λd1 d2=>vB rN eQ lL (some 13841813454723219456) 7 s1 s2 d1 d2 (jI aP er ok))
def bGp{R:Type}(a1 a2 s1 s2 p z1 z2:Nat)(er:KIO R)(ok:KNN R):Option R:=wU (cT cK cJ bJ eC) cK bJ gJ 3 4619567317775286272 (λx=>x) a1 a2 s1 s2 z1 z2 er (λ_ _=>er 6) (λd1 d2=>vB rN eQ lL (some 13842939354630062080) 8 s1 s2 d1 d2 (jI aP er ok))
def bGq{R:Type}(a1 a2 s1 s2 p z1 z2:Nat)(er:KIO R)(ok:KNN R):Option R:=wU (cT cK cJ bJ eC) cK bJ gJ 3 4620693217682128896 (λx=>x) a1 a2 s1 s2 z1 z2 er (λ_ _=>er 6) (λd1 d2=>vB rN eQ lL (some 13844065254536904704) 9 s1 s2 d1 d2 (jI aP er ok))
def bGf{R:Type}(a1 a2 s1 s2 p z1 z2:Nat)(er:KIO R)(ok:KNN R):Option R:=wU (cT cK cJ bJ eC) cK bJ gJ 4 4607182418800017408 (wyK R 4607182418800017408) a1 a2 s1 s2 z1 z2 er (λd1 d2=>vA dV eQ lL (some 4607182418800017408) 0 s1 s2 d1 d2 (jI aP er ok)) (λd1 d2=>vA dV eQ lL (some 4607182418800017408) 0 s1 s2 d1 d2 (jI aP er ok))
def bGg{R:Type}(a1 a2 s1 s2 p z1 z2:Nat)(er:KIO R)(ok:KNN R):Option R:=wU (cT cK cJ bJ eC) cK bJ gJ 4 4611686018427387904 (wyK R 4611686018427387904) a1 a2 s1 s2 z1 z2 er (λd1 d2=>vA dV eQ lL (some 4611686018427387904) 1 s1 s2 d1 d2 (jI aP er ok)) (λd1 d2=>vA dV eQ lL (some 4611686018427387904) 1 s1 s2 d1 d2 (jI aP er ok))
def bGh{R:Type}(a1 a2 s1 s2 p z1 z2:Nat)(er:KIO R)(ok:KNN R):Option R:=wU (cT cK cJ bJ eC) cK bJ gJ 4 4613937818241073152 (wyK R 4613937818241073152) a1 a2 s1 s2 z1 z2 er (λd1 d2=>vA dV eQ lL (some 4613937818241073152) 2 s1 s2 d1 d2 (jI aP er ok)) (λd1 d2=>vA dV eQ lL (some 4613937818241073152) 2 s1 s2 d1 d2 (jI aP er ok))
def bGi{R:Type}(a1 a2 s1 s2 p z1 z2:Nat)(er:KIO R)(ok:KNN R):Option R:=wU (cT cK cJ bJ eC) cK bJ gJ 4 4616189618054758400 (wyK R 4616189618054758400) a1 a2 s1 s2 z1 z2 er (λd1 d2=>vA dV eQ lL (some 4616189618054758400) 3 s1 s2 d1 d2 (jI aP er ok)) (λd1 d2=>vA dV eQ lL (some 4616189618054758400) 3 s1 s2 d1 d2 (jI aP er ok))
def vB1{R:Type}(a1 a2 s1 s2 p z1 z2:Nat)(er:KIO R)(ok:KNN R):Option R:=wU (cT cK cJ bJ eC) cK bJ gJ 4 p (wnK R p) a1 a2 s1 s2 z1 z2 er (λ_ _=>cEj 4607182418800017408 p er) (λd1 d2=>bIi dV eQ bNp p s1 s2 d1 d2 (jI aP er ok))
def vD1{R:Type}(a1 a2 s1 s2 p z1 z2:Nat)(er:KIO R)(ok:KNN R):Option R:=
 bif N9 p 4607182418800017408 then bGj a1 a2 s1 s2 p z1 z2 er ok
 else bif N9 p 4611686018427387904 then bGk a1 a2 s1 s2 p z1 z2 er ok
 else bif N9 p 4613937818241073152 then bGl a1 a2 s1 s2 p z1 z2 er ok
 else bif N9 p 4616189618054758400 then bGm a1 a2 s1 s2 p z1 z2 er ok
 else bif N9 p 4617315517961601024 then bGn a1 a2 s1 s2 p z1 z2 er ok
 else bif N9 p 4618441417868443648 then bGo a1 a2 s1 s2 p z1 z2 er ok
 else bif N9 p 4619567317775286272 then bGp a1 a2 s1 s2 p z1 z2 er ok
 else bif N9 p 4620693217682128896 then bGq a1 a2 s1 s2 p z1 z2 er ok
 else none
def vC1{R:Type}(a1 a2 s1 s2 p z1 z2:Nat)(er:KIO R)(ok:KNN R):Option R:=
 bif N9 p 4607182418800017408 then bGf a1 a2 s1 s2 p z1 z2 er ok
 else bif N9 p 4611686018427387904 then bGg a1 a2 s1 s2 p z1 z2 er ok
 else bif N9 p 4613937818241073152 then bGh a1 a2 s1 s2 p z1 z2 er ok
 else bif N9 p 4616189618054758400 then bGi a1 a2 s1 s2 p z1 z2 er ok
 else vB1 a1 a2 s1 s2 p z1 z2 er ok
def bN4{R:Type}(kind:Int)(a1 a2 s1 s2 p z1 z2:Nat)(er:KIO R)(ok:KNN R):Option R:=
 bif kind==1 then vS1 a1 a2 s1 s2 p z1 z2 er ok else bif kind==2 then vO1 a1 a2 s1 s2 p z1 z2 er ok else bif kind==3 then vD1 a1 a2 s1 s2 p z1 z2 er ok else bif kind==4 then vC1 a1 a2 s1 s2 p z1 z2 er ok else none
def spdK:cCq:=λR kind a1 a2 s1 s2 p z1 z2 k=>bN4 kind a1 a2 s1 s2 p z1 z2 (λe=>k 0 0 e) (λx y=>k x y 0)
open Ieee
theorem yG{s:Bool}{m:Nat}{i:Int}(h:0<dv s m i):s=false:=by
 cases s with
 |false=>rfl
 |true=>
  have h1:dv true m i<=0:=by unfold dv sg;have:=bU (show(0:Rat)<=(m:Rat) by exact_mod_cast Nat.zero_le m) (bN (bG i));simp only[if_true];grind
  grind
theorem aC6{s:Bool}{m:Nat}{i:Int}(h:dv s m i<0):s=true:=by
 cases s with
 |true=>rfl
 |false=>
  have h1:0<=dv false m i:=by unfold dv sg;have:=bU (show(0:Rat)<=(m:Rat) by exact_mod_cast Nat.zero_le m) (bN (bG i));simp only[Bool.false_eq_true,if_false];grind
  grind
theorem uA{a b:Nat}{x:Rat}(ha:Is a x)(hb:Is b x)(hx:1<=x.abs):a=b:=by
 have hlow:(2:Rat)^(-1022:Int)<=x.abs:=cR (cR (cY (show(-1022:Int)<=0 by decide)) (by rw[show(2:Rat)^(0:Int)=1 by simp];exact R9)) hx;obtain⟨s,E,f,rfl,e1,e2,e3,hv⟩:=oW ha hlow;obtain⟨t,F,g,rfl,f1,f2,f3,hw⟩:=oW hb hlow;have hst:s=t:=by
  rcases Rat.le_total (a:=x) (b:=0) with h|h
  ·have hn:x<0:=by rw[Rat.abs_of_nonpos h]at hx;grind
   rw[aC6 (s:=s) (m:=2^52+f) (i:=(E:Int)-1075) (by rw[<-hv];exact hn),aC6 (s:=t) (m:=2^52+g) (i:=(F:Int)-1075) (by rw[<-hw];exact hn)]
  ·have hn:0<x:=by rw[fZ h]at hx;grind
   rw[yG (s:=s) (m:=2^52+f) (i:=(E:Int)-1075) (by rw[<-hv];exact hn),yG (s:=t) (m:=2^52+g) (i:=(F:Int)-1075) (by rw[<-hw];exact hn)]
 subst hst;obtain⟨d1,d2⟩:=aA9 (s:=s) (E:=E) e3;obtain⟨d3,d4⟩:=aA9 (s:=s) (E:=F) f3;rw[<-hv]at d1 d2;rw[<-hw]at d3 d4;have h1:=xL (show(2:Rat)^((E:Int)-1023)<(2:Rat)^((F:Int)-1022) by grind);have h2:=xL (show(2:Rat)^((F:Int)-1023)<(2:Rat)^((E:Int)-1022) by grind);have hEF:E=F:=by omega
 subst hEF;have habs:((2^52+f:Nat):Rat)*(2:Rat)^((E:Int)-1075)=((2^52+g:Nat):Rat)*(2:Rat)^((E:Int)-1075):=by have:=congrArg Rat.abs (hv.symm.trans hw);rwa[vQ,vQ]at this
 have hfg:((2^52+f:Nat):Rat)=((2^52+g:Nat):Rat):=by have hp:=bG ((E:Int)-1075);exact Rat.le_antisymm (Rat.le_of_mul_le_mul_right (by rw[habs];exact R9) hp) (Rat.le_of_mul_le_mul_right (by rw[habs];exact R9) hp)
 have:2^52+f=2^52+g:=by exact_mod_cast hfg
 have:f=g:=by omega
 subst this;rfl
theorem aV2{s t:Bool}{m n:Nat}{i j:Int}(h:dv s m i+dv t n j=0):
  signed s m (i-min i j).toNat+signed t n (j-min i j).toNat=0:=by
 have e1:=xN s m (i-min i j).toNat;have e2:=xN t n (j-min i j).toNat;have k1:(((i-min i j).toNat:Nat):Int)=i-min i j:=Int.toNat_of_nonneg (by omega);have k2:(((j-min i j).toNat:Nat):Int)=j-min i j:=Int.toNat_of_nonneg (by omega);rw[k1]at e1;rw[k2]at e2;have p1:(2:Rat)^i=(2:Rat)^(i-min i j)*(2:Rat)^(min i j):=by rw[<-bO];congr 1;omega
 have p2:(2:Rat)^j=(2:Rat)^(j-min i j)*(2:Rat)^(min i j):=by rw[<-bO];congr 1;omega
 have hs:((signed s m (i-min i j).toNat+signed t n (j-min i j).toNat:Int):Rat)*(2:Rat)^(min i j)=0*(2:Rat)^(min i j):=by rw[Rat.zero_mul,<-h];unfold dv;rw[p1,p2];push_cast;rw[e1,e2];grind
 have hp:=bG (min i j);have h0:((signed s m (i-min i j).toNat+signed t n (j-min i j).toNat:Int):Rat)=0:=
  Rat.le_antisymm (Rat.le_of_mul_le_mul_right (by rw[hs];exact R9) hp) (Rat.le_of_mul_le_mul_right (by rw[hs];exact R9) hp)
 exact_mod_cast h0
theorem aHv{s t:Bool}{m n:Nat}{i j:Int}(h:dv s m i+dv t n j=0)(hst:(s&&t)=false):
  ((Datum.number s m i).sum (Datum.number t n j)).map double.write=some 0:=by
 have h0:=aV2 h;simp only[Datum.sum,h0,if_true,hst,Option.map_some];rfl
theorem aV1{a b:Nat}{x:Rat}(ha:Is a x)(hb:Is b x)(h0:x=0->a=0):fbF .sub a b=some 0:=by
 obtain⟨_,s,m,i,h1,h2⟩:=ha;obtain⟨_,t,n,j,h3,h4⟩:=hb;rw[tV];show((double.read a).sum (double.read b).opposite).map double.write=some 0;rw[h1,h3];show((Datum.number s m i).sum (Datum.number (!t) n j)).map double.write=some 0;refine aHv ?_ ?_
 ·have:dv (!t) n j=- dv t n j:=by unfold dv;rw[bA8];grind
  rw[this,h2,h4];grind
 ·by_cases hx:x=0
  ·have:=h0 hx;subst this;have:double.read 0=.number false 0 (-1074):=by decide
   rw[this]at h1;injection h1 with q1 q2 q3
   rw[<-q1];rfl
  ·rcases Rat.le_total (a:=x) (b:=0) with h|h
   ·have hn:x<0:=by grind
    rw[aC6 (s:=t) (m:=n) (i:=j) (by rw[h4];exact hn)];simp
   ·have hn:0<x:=by grind
    rw[yG (s:=s) (m:=m) (i:=i) (by rw[h2];exact hn)];rfl
theorem aUh{a b:Nat}{x y:Rat}(ha:Is a x)(hb:Is b y)(hxy:x+y=0)(h0:x=0->a=0):fbF .add a b=some 0:=by
 obtain⟨_,s,m,i,h1,h2⟩:=ha;obtain⟨_,t,n,j,h3,h4⟩:=hb;rw[tV];show((double.read a).sum (double.read b)).map double.write=some 0;rw[h1,h3];refine aHv (by rw[h2,h4];exact hxy) ?_;by_cases hx:x=0
 ·have:=h0 hx;subst this;have:double.read 0=.number false 0 (-1074):=by decide
  rw[this]at h1;injection h1 with q1 q2 q3
  rw[<-q1];rfl
 ·rcases Rat.le_total (a:=x) (b:=0) with h|h
  ·have hn:0<y:=by grind
   rw[yG (s:=t) (m:=n) (i:=j) (by rw[h4];exact hn)];simp
  ·have hn:0<x:=by grind
   rw[yG (s:=s) (m:=m) (i:=i) (by rw[h2];exact hn)];rfl
def Wd(w:Nat)(n:Int):Prop:=Is w n/\(n=0->w=0)
theorem bV6{a b:Nat}{n:Int}(ha:Wd a n)(hb:Wd b n):a=b:=by
 by_cases h:n=0;· rw[ha.2 h,hb.2 h]
 ·refine uA ha.1 hb.1 ?_;have h1:(1:Int)<=n\/n<=-1:=by omega
  rcases h1 with h1|h1
  ·have:(1:Rat)<=(n:Rat):=by exact_mod_cast h1
   have:=(aDr (n:Rat)).1;grind
  ·have:(n:Rat)<=((-1:Int):Rat):=by exact_mod_cast h1
   rw[show((-1:Int):Rat)=-1 by norm_cast]at this;have:=(aDr (n:Rat)).2;grind
theorem pU{n:Int}(h:n.natAbs<2^53):Wd (floatOfInt .f64 n) n:=⟨pL h,λh=>by subst h;decide⟩
theorem bV5{a b:Nat}{x y:Int}(ha:Wd a x)(hb:Wd b y)(h:(x+y).natAbs<2^53):∃r,fbF .add a b=some r/\Wd r (x+y):=by obtain⟨r,h1,h2⟩:=bJ5 ha.1 hb.1 h;refine⟨r,h1,h2,λh0=>?_⟩;have:=aUh ha.1 hb.1 (by rw[<-Rat.intCast_add,h0];rfl) (λhx=>ha.2 (by exact_mod_cast hx));rw[h1]at this;exact Option.some.inj this
theorem bJo{a b:Nat}{x y:Int}(ha:Wd a x)(hb:Wd b y)(h:(x-y).natAbs<2^53):∃r,fbF .sub a b=some r/\Wd r (x-y):=by
 obtain⟨r,h1,h2⟩:=aQm ha.1 hb.1 h;refine⟨r,h1,h2,λh0=>?_⟩;have hxy:x=y:=by omega
 subst hxy;have:=aV1 ha.1 hb.1 (λhx=>ha.2 (by exact_mod_cast hx));rw[h1]at this;exact Option.some.inj this
theorem aXf{s:Bool}{m:Nat}{i:Int}{B:Nat}(h:(dv s m i).abs<=((B:Nat):Rat)):Toward.even.cut s (m <<< i.toNat) (-i).toNat<=B+1:=by
 have h4:=(aIq s (m <<< i.toNat) (-i).toNat).2.2.2;have h5:(m <<< i.toNat)/2^(-i).toNat<=B:=by
  rw[vQ]at h;have hn:m <<< i.toNat<=B*2^(-i).toNat:=by
   have e1:((m <<< i.toNat:Nat):Rat)=(m:Rat)*(2:Rat)^i*(2:Rat)^(((-i).toNat:Nat):Int):=by rw[Nat.shiftLeft_eq,Rat.mul_assoc,<-bO];push_cast;rw[show i+((-i).toNat:Int)=((i.toNat:Nat):Int) by omega,cN];push_cast;rfl
   have e2:((m <<< i.toNat:Nat):Rat)<=((B*2^(-i).toNat:Nat):Rat):=by rw[e1];push_cast;rw[cN];push_cast;have:=cG h (bN (bG (((-i).toNat:Nat):Int)));rw[cN]at this;push_cast at this;exact this
   exact_mod_cast e2
  exact Nat.div_le_of_le_mul (by rw[Nat.mul_comm];exact hn)
 omega
theorem xR{w:Nat}{N:Int}(h:Is w N)(hN:N.natAbs<2^53):floatToIntVal .f64 w .i64=some N:=by
 obtain⟨hw,s,m,i,h1,h2⟩:=h;have hn:m <<< i.toNat=N.natAbs*2^(-i).toNat:=by
  have e0:((m:Nat):Rat)*(2:Rat)^i=((N.natAbs:Nat):Rat):=by have:=congrArg Rat.abs h2;rw[vQ,wE]at this;exact this
  have e1:((m <<< i.toNat:Nat):Rat)=(m:Rat)*(2:Rat)^i*(2:Rat)^(((-i).toNat:Nat):Int):=by rw[Nat.shiftLeft_eq,Rat.mul_assoc,<-bO];push_cast;rw[show i+((-i).toNat:Int)=((i.toNat:Nat):Int) by omega,cN];push_cast;rfl
  have e2:((m <<< i.toNat:Nat):Rat)=((N.natAbs*2^(-i).toNat:Nat):Rat):=by rw[e1,e0,cN];push_cast;rfl
  exact_mod_cast e2
 have hcut:Toward.zero.cut s (m <<< i.toNat) (-i).toNat=N.natAbs:=by
  unfold Toward.cut;simp only[Bool.toNat_false,Nat.add_zero];by_cases h0:N.natAbs=0;· rw[hn,h0];simp
  ·have hge:2^(-i).toNat<=m <<< i.toNat:=by rw[hn];exact Nat.le_mul_of_pos_left _ (by omega)
   have hlog:(-i).toNat<=(m <<< i.toNat).log2:=(Nat.le_log2 (by have:=Nat.two_pow_pos (-i).toNat;omega)).2 hge;rw[Nat.min_eq_left (by omega),hn,show 1 <<< (-i).toNat=2^(-i).toNat by rw[Nat.shiftLeft_eq,Nat.one_mul]];exact Nat.mul_div_cancel _ (Nat.two_pow_pos _)
 have hsg:signed s N.natAbs 0=N:=by
  unfold signed;rw[Nat.shiftLeft_zero];by_cases h0:N=0;· subst h0;cases s<;>rfl
  ·cases s with
   |false=>
    have:0<=N:=by
     refine Int.not_lt.1 λhlt=>?_
     have:((N:Int):Rat)<0:=by exact_mod_cast hlt
     have:=aC6 (s:=false) (m:=m) (i:=i) (by rw[h2];exact this);cases this
    simp only[Bool.false_eq_true,if_false];omega
   |true=>
    have:N<=0:=by
     refine Int.not_lt.1 λhlt=>?_
     have:(0:Rat)<((N:Int):Rat):=by exact_mod_cast hlt
     have:=yG (s:=true) (m:=m) (i:=i) (by rw[h2];exact this);cases this
    simp only[if_true];omega
 unfold floatToIntVal;have hd:FloatKind.f64.decode w=.number s m i:=h1;rw[hd];simp only[Datum.toInt,Datum.integral,hcut,hsg];rw[if_pos];constructor;· show(-9223372036854775808:Int)<=N;omega
 ·show N<=9223372036854775807;omega
theorem bS9:Is 4697254411347427328 (((2^20:Int)):Rat):=by have:=pL (n:=2^20) (by decide);rw[show floatOfInt .f64 (2^20)=4697254411347427328 by decide]at this;exact this
theorem bD2{w:Nat}{x:Rat}(h:Is w x)(hx:x.abs<=100){R:Type}(k:KBO R):bQh R w k=k true:=by
 have e:bQh R w k=aW (leF (wV w) 4697254411347427328) λt=>aW t λt=>aW t λt=>k t:=rfl
 rw[e,aJ,sD (kW h) bS9];have:x.abs<=((2^20:Int):Rat):=by
  have:((2^20:Int):Rat)=1048576:=by rw[show(2^20:Int)=1048576 by decide];rfl
  rw[this];grind
 simp only[this,decide_true,aJ]
theorem aTh{w:Nat}(h:aA0 w=false):double.read (wV w)=.infinity false\/∃t,double.read (wV w)=.nan false t:=by
 have e1:double.signWeight=9223372036854775808:=by decide
 have e2:double.binade=4503599627370496:=by decide
 have e3:double.infRung=9218868437227405312:=by decide
 unfold aA0 at h;rw[nl]at h;have hE:¬xT w<2047:=by simpa using h
 have hEe:xT w=w/4503599627370496%2048:=rfl;rw[aDq];have hm:w%2^63=w%9223372036854775808:=rfl;rw[hm];have hge:9218868437227405312<=w%9223372036854775808:=by omega
 have h64:w%9223372036854775808<9223372036854775808:=Nat.mod_lt _ (by decide);generalize w%9223372036854775808=r at *
 unfold Format.read;simp only[e1,e2,e3];have hr:r%9223372036854775808=r:=Nat.mod_eq_of_lt h64;have hs:(r/9223372036854775808%2==1)=false:=by rw[Nat.div_eq_of_lt h64];rfl
 rw[hr,hs,if_neg (by omega),if_neg (by omega)];by_cases he:r=9218868437227405312;· rw[if_pos he];exact .inl rfl
 ·rw[if_neg he];exact .inr ⟨_,rfl⟩
theorem bCn{p:Nat}(hp:p<2^64)(h:leF (wV p) 4787326403894837248=true):∃P,Is p P/\P.abs<=((2^40:Int):Rat):=by
 cases hf:aA0 p with
 |true=>have hi:Is p (dv (aHq p) (kT p) ((aCk p:Int)-1074)):=⟨hp,_,_,_,mA hf,rfl⟩;refine⟨_,hi,?_⟩;rw[sD (kW hi) aSe]at h;simpa using h
 |false=>exfalso;unfold leF at h;rw[wK]at h;unfold Format.order at h;rw[show double.read 4787326403894837248=.number false 4503599627370496 (-12) by decide]at h;rcases aTh hf with g|⟨t,g⟩<;>(rw[g]at h;cases h)
def aF4(p:Nat):Nat:=double.write ((double.read p).integral .zero)
theorem aF3{p:Nat}{P:Rat}(h:Is p P){R:Type}(k:KBO R):eC R p k=k (eqF (aF4 p) p):=by obtain⟨hw,s,m,i,h1,rfl⟩:=h;unfold eC aUd sN aF4;rw[h1];simp only;rw[cB,aJ]
theorem aCf{w:Nat}{n:Int}(h:floatOfInt .f64 n=w)(hn:n.natAbs<2^53):Is w n:=by rw[<-h];exact pL hn
theorem bPo{p w:Nat}{n:Int}(h:Is p n)(hl:Is w n)(h1:1<=n):p=w:=
 uA h hl (by
  rw[fZ (by
   have:(0:Int)<=n:=by omega
   exact_mod_cast this)]
  exact_mod_cast h1)
theorem l1:Is 4607182418800017408 ((1:Int):Rat):=aCf (by decide) (by decide)
theorem l2:Is 4611686018427387904 ((2:Int):Rat):=aCf (by decide) (by decide)
theorem l3:Is 4613937818241073152 ((3:Int):Rat):=aCf (by decide) (by decide)
theorem l4:Is 4616189618054758400 ((4:Int):Rat):=aCf (by decide) (by decide)
theorem aVr:Is 4598175219545276416 (1/4:Rat):=by refine⟨by decide,false,4503599627370496,-54,by decide,?_⟩;unfold dv sg;rw[if_neg (by decide),Rat.one_mul,show((4503599627370496:Nat):Rat)=(2:Rat)^((52:Nat):Int) by rw[cN],<-bO,show((52:Nat):Int)+-54=-2 by decide];have h:=bO (-2) 2;rw[show(-2:Int)+2=0 by decide,Rat.zpow_zero,show(2:Rat)^(2:Int)=4 by rw[show(2:Int)=((2:Nat):Int) by rfl,cN];rfl]at h;grind
def tT(kind:Int)(n:Bool)(p:Nat):Int:=
 match decide (kind<1) with
 |true=>150
 |false=>match decide (kind>4) with
  |true=>150
  |false=>match leF (wV p) 4787326403894837248 with
   |false=>5
   |true=>match kind==1 with
    |true=>(match n with|true=>(match eqF p 0 with|true=>0|false=>150)|false=>150)
    |false=>match kind==2 with
     |true=>(match eqF p 0 with|true=>0|false=>150)
     |false=>match kind==3 with
      |true=>(match eqF (aF4 p) p with
       |true=>(match geF p 4607182418800017408 with
        |true=>(match leF p 4620693217682128896 with|true=>0|false=>150)
        |false=>150)
       |false=>150)
      |false=>(match geF p 4598175219545276416 with
        |true=>(match leF p 4616189618054758400 with|true=>0|false=>150)
        |false=>150)
theorem aH1{p:Nat}{R:Type}(k:KBO R):cJ R p 4787326403894837248 k=k (leF (wV p) 4787326403894837248):=by unfold cJ aKu kO;show aW (leF (wV p) 4787326403894837248) (λt=>k t)=_;rw[aJ]
theorem aC5{kind:Int}{a1 a2 s1 s2 p:Nat}{xa ya xs ys:Int}(ha:IsC a1 a2 xa ya)(hs:IsC s1 s2 xs ys)(h1:xa.natAbs<=2^40)(h2:ya.natAbs<=2^40)(h3:xs.natAbs<=2^40)(h4:ys.natAbs<=2^40)(hp:p<2^64){R:Type}(k:KIO R):cT cK cJ bJ eC R kind a1 a2 s1 s2 p k=k (tT kind (decide (xa=0/\ya=0)) p):=by
 unfold cT tT;rw[aJ];cases g0:decide (kind<1) with
 |true=>rfl
 |false=>
  simp only;rw[aJ];cases g4:decide (kind>4) with
  |true=>rfl
  |false=>
   simp only;rw[aHl ha h1 h2,aJ];simp only;rw[aHl hs h3 h4,aJ];simp only;rw[aH1,aJ];cases hl:leF (wV p) 4787326403894837248 with
   |false=>rfl
   |true=>
    obtain⟨P,ip,bp⟩:=bCn hp hl;simp only;rw[aJ];cases g1:kind==1 with
    |true=>
     simp only;rw[aPl ha,aJ];cases decide (xa=0/\ya=0) with
     |false=>rfl
     |true=>simp only;rw[aJ];cases eqF p 0<;>rfl
    |false=>
     simp only;rw[aJ];cases g2:kind==2 with
     |true=>simp only;rw[aJ];cases eqF p 0<;>rfl
     |false=>
      simp only;rw[aJ];cases g3:kind==3 with
      |true=>
       simp only;rw[aF3 ip,aJ];cases eqF (aF4 p) p with
       |false=>rfl
       |true=>
        simp only;rw[aJ];cases geF p 4607182418800017408 with
        |false=>rfl
        |true=>simp only;rw[aJ];cases leF p 4620693217682128896<;>rfl
      |false=>
       simp only;rw[aJ];cases g5:kind==4 with
       |true=>
        simp only;rw[aJ];cases geF p 4598175219545276416 with
        |false=>rfl
        |true=>simp only;rw[aJ];cases leF p 4616189618054758400<;>rfl
       |false=>
        exfalso;have c0:=of_decide_eq_false g0;have c4:=of_decide_eq_false g4;have c1:¬kind=1:=by simpa using g1
        have c2:¬kind=2:=by simpa using g2
        have c3:¬kind=3:=by simpa using g3
        have c5:¬kind=4:=by simpa using g5
        omega
variable{s1 s2 d1 d2:Nat}{u v x y:Int}
theorem bRf{p w:Nat}{R:Type}{a b:R}(h:p≠w):(bif N9 p w then a else b)=b:=by rw[nb,E7 h];rfl
theorem bKg{p w:Nat}{R:Type}{a b:R}(h:p=w):(bif N9 p w then a else b)=a:=by rw[nb,D7 h];rfl
theorem aAp{x z:Rat}(h:Rnd x z)(hx:x=0):z=0:=by have:=h.rep 0 0 (by decide) (by decide) (by rw[hx];simp);rw[this,hx]
def cV:Rat:=dv false 5734161139222659 (-55)
def piV:Rat:=dv false 7074237752028440 (-51)
theorem cFs:Is 4594902181429758083 cV:=⟨by decide,false,_,_,by decide,rfl⟩
theorem bMf:Is 4614256656552045848 piV:=⟨by decide,false,_,_,by decide,rfl⟩
theorem aMs(n:Nat):(2:Rat)^(-(n:Int))*((2^n:Nat):Rat)=1:=by rw[<-cN,<-bO,show -(n:Int)+n=0 by omega,Rat.zpow_zero]
theorem bKi:cV=5734161139222659/36028797018963968:=by have h:=aMs 55;have e:((2^55:Nat):Rat)=36028797018963968:=rfl;rw[e]at h;unfold cV dv sg;rw[if_neg (by decide),Rat.one_mul,show((5734161139222659:Nat):Rat)=5734161139222659 by rfl,show(-55:Int)=-((55:Nat):Int) by rfl];grind
theorem aTa:piV=7074237752028440/2251799813685248:=by have h:=aMs 51;have e:((2^51:Nat):Rat)=2251799813685248:=rfl;rw[e]at h;unfold piV dv sg;rw[if_neg (by decide),Rat.one_mul,show((7074237752028440:Nat):Rat)=7074237752028440 by rfl,show(-51:Int)=-((51:Nat):Int) by rfl];grind
theorem oP:eps=1/2251799813685248:=by have h:=aMs 51;have e:((2^51:Nat):Rat)=2251799813685248:=rfl;rw[e]at h;unfold eps;rw[show(-51:Int)=-((51:Nat):Int) by rfl];grind
theorem bYb:(cV*2*piV-1).abs<=eps:=by rw[bKi,aTa,oP];exact aA.2 ⟨by grind,by grind⟩
theorem cGd:(2:Rat)^(-40:Int)=1/1099511627776:=by have h:=aMs 40;have e:((2^40:Nat):Rat)=1099511627776:=rfl;rw[e]at h;rw[show(-40:Int)=-((40:Nat):Int) by rfl];grind
theorem bS5:Is 4427038433705197568 ((2:Rat)^(-40:Int)):=by refine⟨by decide,false,4503599627370496,-92,by decide,?_⟩;unfold dv sg;rw[if_neg (by decide),Rat.one_mul,show((4503599627370496:Nat):Rat)=(2:Rat)^((52:Nat):Int) by rw[cN],<-bO];rfl
theorem aOv:Is 4517110426252607488 ((2:Rat)^(-20:Int)):=by refine⟨by decide,false,4503599627370496,-72,by decide,?_⟩;unfold dv sg;rw[if_neg (by decide),Rat.one_mul,show((4503599627370496:Nat):Rat)=(2:Rat)^((52:Nat):Int) by rw[cN],<-bO];rfl
theorem aTt{a b c:Nat}{x y z:Int}(h:IsC a b x y)(hc:Is c z)(b1:(x*z).natAbs<2^53)(b2:(y*z).natAbs<2^53):
  ∃p q,IsC p q (x*z) (y*z)/\∀(R:Type)(k:KNN R),eQ R a b c k=k p q:=by
 obtain⟨p,e1,g1⟩:=aJl h.1 hc b1;obtain⟨q,e2,g2⟩:=aJl h.2 hc b2;exact⟨p,q,⟨g1,g2⟩,λR k=>by unfold eQ;rw[aK e1,aK e2]⟩
section
variable{a1 a2 s1 s2:Nat}{x y u v:Int}{R:Type}
theorem aNz(ha:IsC a1 a2 x y)(h1:x.natAbs<=2^40)(h2:y.natAbs<=2^40)(k:KBO R):jQ R a1 a2 4787326403894837248 k=k true:=by unfold jQ yD;rw[vN ha.1 h1,aJ];simp only;rw[vN ha.2 h2,aJ]
theorem bD4{r:Nat}{V:Int}(hr:Is r V)(h1:1<=V):geF r 4427038433705197568=true:=by
 rw[tB hr bS5,cGd];have:((1:Int):Rat)<=(V:Rat):=by exact_mod_cast h1
 exact D7 (by grind)
theorem bMm{r:Nat}{V:Int}(hr:Is r V)(h1:V<=2^40):leF r 4787326403894837248=true:=by rw[sD hr aSe];exact D7 (by exact_mod_cast h1)
end
section
variable{R:Type}
theorem bEo:Is 4652007308841189376 ((1000:Int):Rat):=aCf (by decide) (by decide)
theorem bE1{w:Nat}{M:Nat}(h:Is w ((M:Int):Rat))(hM:M<=1000):∃(w':Nat)(N:Int),0<=N/\N<=999/\Is w' N/\∀(R:Type)(k:KNO R),cAe R w k=k w':=by
 by_cases e:M=1000;· subst e;have hw:w=4652007308841189376:=bPo h bEo (by decide);exact⟨0,0,by decide,by decide,hJ,λR k=>bKg hw⟩
 ·have hne:w≠4652007308841189376:=λg=>by subst g;have:=aY8 h bEo;have h2:(M:Int)=1000:=aHc.1 this;omega
  refine⟨w,M,by omega,by omega,h,λR k=>?_⟩;have h0:ltF w 0=false:=by
   rw[zZ h hJ];have:((0:Int):Rat)<=((M:Int):Rat):=by exact_mod_cast (show(0:Int)<=M by omega)
   exact E7 (by grind)
  have h1:geF w 4652007308841189376=false:=by rw[tB h bEo];have:((M:Int):Rat)<((1000:Int):Rat):=Rat.intCast_lt_intCast.2 (by omega);exact E7 (by grind)
  refine Eq.trans (bRf hne) ?_;unfold cAd n2K n1K;rw[oU h];simp only;rw[lX h];simp only;rw[lX bEo];simp only;rw[h0,aJ];simp only;rw[h1,aJ];simp only;rw[aJ]
theorem aZx{a b m:Nat}{P W M:Rat}(ha:Is a P)(hb:Is b W)(hm:Is m M)(hs:(P-W).abs<(2:Rat)^(1023:Int))(hn:∀D,Rnd (P-W) D->D.abs<=M)(X:Option R):nrT kO R a b m X=X:=by obtain⟨d,D,h1,h2,h3⟩:=qD ha hb hs;unfold nrT aSt;rw[aK h1];show aW (leF (wV d) m) _=_;rw[sD (kW h2) hm,D7 (hn D h3)];rfl
theorem aPt:(2:Rat)^(-20:Int)=1/1048576:=by have h:=aMs 20;have e:((2^20:Nat):Rat)=1048576:=rfl;rw[e]at h;rw[show(-20:Int)=-((20:Nat):Int) by rfl];grind
theorem kL{x:Rat}(h:x.abs<=1000000000000000):x.abs<(2:Rat)^(1023:Int):=by
 have h6:=cY (show(50:Int)<=1023 by decide);have h8:(2:Rat)^(50:Int)=1125899906842624:=by rw[show(50:Int)=((50:Nat):Int) by rfl,cN];rfl
 grind
end
section
variable{α:Type}{ys:List α}
theorem qC{x z:Rat}(h:Rnd x z)(hx:x=0):z=0:=by have:=h.rep 0 0 (by decide) (by decide) (by rw[hx];simp);rw[this,hx]
end
def cDu:Rat:=(2:Rat)^(400:Int)
theorem bL7{x:Rat}(h:x.abs<=cDu):x.abs<(2:Rat)^(1022:Int):=by have h1:=cY (show(401:Int)<=1022 by decide);have h2:=fA 401;rw[show(401-1:Int)=400 by decide]at h2;have:=bG 400;unfold cDu at h;grind
def sm(f:Nat->Rat):Nat->Nat->Rat
 |_,0=>0
 |c,m+1=>f c+sm f (c+1) m
theorem kV{f g:Nat->Rat}:∀(m c:Nat),(∀j,c<=j->j<c+m->f j=g j)->sm f c m=sm g c m
 |0,c,h=>rfl
 |m+1,c,h=>by unfold sm;rw[h c (L9 _) (by omega),kV m (c+1) λj h1 h2=>h j (by omega) (by omega)]
theorem aCp(f g:Nat->Rat):∀(m c:Nat),sm (λj=>f j+g j) c m=sm f c m+sm g c m
 |0,c=>by simp only[sm];grind
 |m+1,c=>by simp only[sm,aCp f g m (c+1)];grind
theorem wQ(k:Rat)(f:Nat->Rat):∀(m c:Nat),sm (λj=>k*f j) c m=k*sm f c m
 |0,c=>by simp only[sm];grind
 |m+1,c=>by simp only[sm,wQ k f m (c+1)];grind
theorem aAt{f g:Nat->Rat}:∀(m c:Nat),(∀j,c<=j->j<c+m->(f j).abs<=g j)->(sm f c m).abs<=sm g c m
 |0,c,h=>by simp only[sm];rw[fO];grind
 |m+1,c,h=>by
  simp only[sm];have h1:=h c (L9 _) (by omega);have h2:=aAt m (c+1) λj h1 h2=>h j (by omega) (by omega)
  have:=aL (f c) (sm f (c+1) m);grind
theorem aAu{f:Nat->Rat}(h:∀j,0<=f j):∀(m c:Nat),0<=sm f c m
 |0,c=>by simp only[sm];grind
 |m+1,c=>by simp only[sm];have:=h c;have:=aAu h m (c+1);grind
theorem pQ(f:Nat->Rat):∀(a b c:Nat),sm f c (a+b)=sm f c a+sm f (c+a) b
 |0,b,c=>by simp only[sm,Nat.zero_add,Nat.add_zero];grind
 |a+1,b,c=>by rw[show a+1+b=(a+b)+1 by omega];simp only[sm,pQ f a b (c+1)];rw[show c+1+a=c+(a+1) by omega];grind
theorem aFs(f:Nat->Rat)(k c:Nat):sm f c (k+1)=sm f c k+f (c+k):=by rw[pQ f k 1 c];simp only[sm];grind
open Go.Proofs
def aFr(b n c:Nat):Value:=.slice (some ⟨b,0,none⟩) n c
noncomputable def spC(fi:Fi)(sp:bC2)(pl:KCI)(add:gU)(fn:KCB)(g:HT):Cx:=uC fi [(28,bX7 sp),(120,sCI pl),(26,jH add),(91,sCB fn)] [(34,bF (.int .i64 0) g)] []
def bDt(f:Nat->El):Nat->Nat->List Value
 |_,0=>[]
 |i,m+1=>.int .u8 (f i).kind::.complex .f64 (f i).a1 (f i).a2::.complex .f64 (f i).s1 (f i).s2::.float .f64 (f i).p::bDt f (i+1) m
section
variable{R:Type}
def aYl(add:gU):Nat->Nat->List (Nat×Nat)->(Nat->Nat->Option R)->Option R
 |a,b,[],k=>k a b
 |a,b,(c,d)::r,k=>add R a b c d λx y=>aYl add x y r k
def bGa(add:gU):List (Nat×Nat)->(Nat->Nat->Option R)->Option R
 |[],k=>k 0 0
 |(a,b)::r,k=>aYl add a b r k
def bQs(sp:bC2)(add:gU)(fn:KCB)(f:Nat->El)(z1 z2:Nat)(k:vT R):Nat->Nat->List (Nat×Nat)->Option R
 |0,_,l=>bGa add l.reverse λx y=>fn R x y λt=>bif t then k x y 0 else k 0 0 6
 |m+1,i,l=>sp R (f i).kind (f i).a1 (f i).a2 (f i).s1 (f i).s2 (f i).p z1 z2 λa b e=>bif e != 0 then k 0 0 e else bQs sp add fn f z1 z2 k m (i+1) ((a,b)::l)
end
def spE(x y:Nat)(e:Int):Env:=[(4,.complex .f64 x y),(5,.int .i64 e)]
def bJu(m:Nat):Prop:=∀(R:Type)(sp:bC2)(pl:KCI)(add:gU)(fn:KCB)(g:HT)(f:Nat->El)(c sz z1 z2:Nat)(K:Ex->Env->dF->Option R),
 bE (spC aG sp pl add fn g) 100 (sV (spC aG sp pl add fn g) 100) 1 19 (bB 61) (gX 0 [.agg ⟨[aFr 0 m c]⟩,.complex .f64 z1 z2]) ⟨1,[(0,.cells (bDt f 0 m) sz)]⟩ (aU [4,5] [] K) =
  g R [.agg ⟨[aFr 0 m c]⟩] ⟨3,[(2,.cells [.int .u8 0,.complex .f64 0 0,.complex .f64 0 0,.float .f64 0,aFr 0 m c,bL] 0),(1,.cells [aFr 0 m c] 0),(0,.cells (bDt f 0 m) sz)]⟩ (pl R z1 z2 λe=>bif e != 0 then K .ret (spE 0 0 e) [] else bQs sp add fn f z1 z2 (λx y e=>K .ret (spE x y e) []) m 0 [])
theorem cGo:bJu 1:=by intro R sp pl add fn g f c sz z1 z2 K;kernel_rfl
theorem cGp:bJu 2:=by intro R sp pl add fn g f c sz z1 z2 K;kernel_rfl
theorem cGq:bJu 3:=by intro R sp pl add fn g f c sz z1 z2 K;kernel_rfl
theorem cGr:bJu 4:=by intro R sp pl add fn g f c sz z1 z2 K;kernel_rfl
theorem bGt(R:Type) r (k:KVO R):fC (cx P9 []) 60 168 [.float .f64 r,.int .i64 1] k=aKf R r λx=>k (.float .f64 x):=by kernel_rfl
theorem cBj(fi:Fi)(wh ris:KFF)(scal:aKy)(R:Type) x (k:KVO R):fC (cxf fi P9 [(122,sFF wh),(168,aP8 ris),(79,aP4 scal),(74,aM3)] []) 60 167 [.float .f64 x] k=cCx fi wh ris scal R x λx=>k (.float .f64 x):=by kernel_rfl
theorem bWn(R:Type) x m (k:KVO R):fC (cx P9 [(106,aKw)]) 60 123 [.float .f64 x,.float .f64 m,.float .f64 4607182418800017408] k=aOz R x m λx=>k (.float .f64 x):=by kernel_rfl
theorem bPq(R:Type) y (k:KVO R):fC (cx P9 []) 60 108 [.float .f64 y] k=yC R y λs c=>k (.tuple ⟨[.float .f64 s,.float .f64 c]⟩):=by kernel_rfl
theorem bCq(fi:Fi)(fit:KFB)(wh:KFF)(ls:vS)(R:Type) x (k:KVO R):fC (cxf fi P9 [(121,sFB fit),(122,sFF wh),(123,bNy ls),(76,aAs),(106,aKw)] []) 60 107 [.float .f64 x] k =
 aJ6 fi fit wh ls R x λy n=>k (.tuple ⟨[.float .f64 y,.int .i64 n]⟩):=by kernel_rfl
theorem bWp(q:bC1)(st:bCu)(R:Type) x (k:KVO R):fC (cx P9 [(107,aGr q),(108,bC0 st)]) 60 71 [.float .f64 x] k=bPk q st R x λs c=>k (.tuple ⟨[.float .f64 s,.float .f64 c]⟩):=by kernel_rfl
theorem bWl(ex:KFF)(tn:bCu)(R:Type) a b (k:KVO R):fC (cx P9 [(167,sFF ex),(71,bC0 tn)]) 60 166 [.complex .f64 a b] k=bRk ex tn R a b λx y=>k (.complex .f64 x y):=by kernel_rfl
theorem bWo(lg:KCC)(scl:mO)(ex:KCC)(R:Type) a b p (k:KVO R):fC (cx P9 [(150,sCC lg),(15,tF scl),(166,sCC ex)]) 60 165 [.complex .f64 a b,.float .f64 p] k=bU5 lg scl ex R a b p λx y=>k (.complex .f64 x y):=by kernel_rfl
theorem cGz(mul:gU)(R:Type) a b (k:KVO R):fC (cx P9 [(43,jH mul)]) 60 90 [.complex .f64 a b,.int .i64 1] k=k (.complex .f64 a b):=by kernel_rfl
theorem cG3(mul:gU)(R:Type) a b (k:KVO R):fC (cx P9 [(43,jH mul)]) 60 90 [.complex .f64 a b,.int .i64 5] k=gR mul a b (pI 5) a b λx y=>k (.complex .f64 x y):=by kernel_rfl
theorem cBl(mul:gU)(R:Type) a b (k:KVO R):fC (cx P9 [(43,jH mul)]) 60 90 [.complex .f64 a b,.int .i64 10] k=gR mul a b (pI 10) a b λx y=>k (.complex .f64 x y):=by kernel_rfl
def bMu(t:TypeId)(s:String):Option FuncId:=
 bif s == "eddy/element.speed" then
  (bif N9 t 141 then some 149 else bif N9 t 143 then some 160 else bif N9 t 145 then some 164 else bif N9 t 147 then some 171 else bif N9 t 148 then some 174 else none)
 else bif s == "eddy/element.potential" then
  (bif N9 t 141 then some 147 else bif N9 t 143 then some 158 else bif N9 t 145 then some 162 else bif N9 t 147 then some 169 else bif N9 t 148 then some 172 else none)
 else bif s == "eddy/element.slope" then
  (bif N9 t 141 then some 148 else bif N9 t 143 then some 159 else bif N9 t 145 then some 163 else bif N9 t 147 then some 170 else bif N9 t 148 then some 173 else none)
 else none
def cxv(P:Program)(l:List (Nat×Sum)):Cx:={ P:=P,sums:=tab l,exts:=λ_=>none,meths:=bMu,wild:=λ_=>false,fi:=aG,nn:=false,nan1:=λ_=>false,defs:=λ_=>false,hs:=λ_ _ _=>none }
theorem cGx(re:KCB)(wi:aA1)(no fin:KCB)(wh:KFB)(sub:gU)(R:Type) a1 a2 s1 s2 p z1 z2 (k:KVO R):
 fC (cxv P9 [(84,sEI (cT re wi no wh)),(109,sCB re),(110,sCB no),(91,sCB fin),(35,jH sub)]) 60 28 [el 1 a1 a2 s1 s2 p,.complex .f64 z1 z2] k =
  wU (cT re wi no wh) re no sub 1 p (λx=>x) a1 a2 s1 s2 z1 z2 (mL k) (λd1 d2=>(jI fin (mL k) (zOk k)) s1 s2) (λd1 d2=>(jI fin (mL k) (zOk k)) s1 s2):=by kernel_rfl
theorem cGw(re:KCB)(wi:aA1)(no fin:KCB)(wh:KFB)(sub:gU)(div:gU)(scl:mO)(R:Type) a1 a2 s1 s2 p z1 z2 (k:KVO R):
 fC (cxv P9 [(84,sEI (cT re wi no wh)),(109,sCB re),(110,sCB no),(91,sCB fin),(35,jH sub),(89,jH div),(15,tF scl),(70,sPi)]) 60 28 [el 2 a1 a2 s1 s2 p,.complex .f64 z1 z2] k =
  bYc (cT re wi no wh) re no sub scl a1 a2 s1 s2 p z1 z2 (mL k) (λc1 c2 d1 d2=>div R c1 c2 d1 d2 (jI fin (mL k) (zOk k))):=by kernel_rfl
theorem bWd(re:KCB)(wi:aA1)(no fin:KCB)(wh:KFB)(sub:gU)(div:gU)(scl:mO)(W:KW)(R:Type) a1 a2 s1 s2 z1 z2 (k:KVO R):
 fC (cxv P9 [(84,sEI (cT re wi no wh)),(109,sCB re),(110,sCB no),(91,sCB fin),(35,jH sub),(89,jH div),(15,tF scl),(90,sKW W)]) 60 28 [el 3 a1 a2 s1 s2 4607182418800017408,.complex .f64 z1 z2] k =
  wU (cT re wi no wh) re no sub 3 4607182418800017408 (λx=>x) a1 a2 s1 s2 z1 z2 (mL k) (λ_ _=>mL k 6) (λd1 d2=>vB div scl W (some 13830554455654793216) 2 s1 s2 d1 d2 (jI fin (mL k) (zOk k))):=by kernel_rfl
theorem bWe(re:KCB)(wi:aA1)(no fin:KCB)(wh:KFB)(sub:gU)(div:gU)(scl:mO)(W:KW)(R:Type) a1 a2 s1 s2 z1 z2 (k:KVO R):
 fC (cxv P9 [(84,sEI (cT re wi no wh)),(109,sCB re),(110,sCB no),(91,sCB fin),(35,jH sub),(89,jH div),(15,tF scl),(90,sKW W)]) 60 28 [el 3 a1 a2 s1 s2 4611686018427387904,.complex .f64 z1 z2] k =
  wU (cT re wi no wh) re no sub 3 4611686018427387904 (λx=>x) a1 a2 s1 s2 z1 z2 (mL k) (λ_ _=>mL k 6) (λd1 d2=>vB div scl W (some 13835058055282163712) 3 s1 s2 d1 d2 (jI fin (mL k) (zOk k))):=by kernel_rfl
theorem bWf(re:KCB)(wi:aA1)(no fin:KCB)(wh:KFB)(sub:gU)(div:gU)(scl:mO)(W:KW)(R:Type) a1 a2 s1 s2 z1 z2 (k:KVO R):
 fC (cxv P9 [(84,sEI (cT re wi no wh)),(109,sCB re),(110,sCB no),(91,sCB fin),(35,jH sub),(89,jH div),(15,tF scl),(90,sKW W)]) 60 28 [el 3 a1 a2 s1 s2 4613937818241073152,.complex .f64 z1 z2] k =
  wU (cT re wi no wh) re no sub 3 4613937818241073152 (λx=>x) a1 a2 s1 s2 z1 z2 (mL k) (λ_ _=>mL k 6) (λd1 d2=>vB div scl W (some 13837309855095848960) 4 s1 s2 d1 d2 (jI fin (mL k) (zOk k))):=by kernel_rfl
theorem bWg(re:KCB)(wi:aA1)(no fin:KCB)(wh:KFB)(sub:gU)(div:gU)(scl:mO)(W:KW)(R:Type) a1 a2 s1 s2 z1 z2 (k:KVO R):
 fC (cxv P9 [(84,sEI (cT re wi no wh)),(109,sCB re),(110,sCB no),(91,sCB fin),(35,jH sub),(89,jH div),(15,tF scl),(90,sKW W)]) 60 28 [el 3 a1 a2 s1 s2 4616189618054758400,.complex .f64 z1 z2] k =
  wU (cT re wi no wh) re no sub 3 4616189618054758400 (λx=>x) a1 a2 s1 s2 z1 z2 (mL k) (λ_ _=>mL k 6) (λd1 d2=>vB div scl W (some 13839561654909534208) 5 s1 s2 d1 d2 (jI fin (mL k) (zOk k))):=by kernel_rfl
theorem bWh(re:KCB)(wi:aA1)(no fin:KCB)(wh:KFB)(sub:gU)(div:gU)(scl:mO)(W:KW)(R:Type) a1 a2 s1 s2 z1 z2 (k:KVO R):
 fC (cxv P9 [(84,sEI (cT re wi no wh)),(109,sCB re),(110,sCB no),(91,sCB fin),(35,jH sub),(89,jH div),(15,tF scl),(90,sKW W)]) 60 28 [el 3 a1 a2 s1 s2 4617315517961601024,.complex .f64 z1 z2] k =
  wU (cT re wi no wh) re no sub 3 4617315517961601024 (λx=>x) a1 a2 s1 s2 z1 z2 (mL k) (λ_ _=>mL k 6) (λd1 d2=>vB div scl W (some 13840687554816376832) 6 s1 s2 d1 d2 (jI fin (mL k) (zOk k))):=by kernel_rfl
theorem bWi(re:KCB)(wi:aA1)(no fin:KCB)(wh:KFB)(sub:gU)(div:gU)(scl:mO)(W:KW)(R:Type) a1 a2 s1 s2 z1 z2 (k:KVO R):
 fC (cxv P9 [(84,sEI (cT re wi no wh)),(109,sCB re),(110,sCB no),(91,sCB fin),(35,jH sub),(89,jH div),(15,tF scl),(90,sKW W)]) 60 28 [el 3 a1 a2 s1 s2 4618441417868443648,.complex .f64 z1 z2] k =
  wU (cT re wi no wh) re no sub 3 4618441417868443648 (λx=>x) a1 a2 s1 s2 z1 z2 (mL k) (λ_ _=>mL k 6) (λd1 d2=>vB div scl W (some 13841813454723219456) 7 s1 s2 d1 d2 (jI fin (mL k) (zOk k))):=by kernel_rfl
theorem bWj(re:KCB)(wi:aA1)(no fin:KCB)(wh:KFB)(sub:gU)(div:gU)(scl:mO)(W:KW)(R:Type) a1 a2 s1 s2 z1 z2 (k:KVO R):
 fC (cxv P9 [(84,sEI (cT re wi no wh)),(109,sCB re),(110,sCB no),(91,sCB fin),(35,jH sub),(89,jH div),(15,tF scl),(90,sKW W)]) 60 28 [el 3 a1 a2 s1 s2 4619567317775286272,.complex .f64 z1 z2] k =
  wU (cT re wi no wh) re no sub 3 4619567317775286272 (λx=>x) a1 a2 s1 s2 z1 z2 (mL k) (λ_ _=>mL k 6) (λd1 d2=>vB div scl W (some 13842939354630062080) 8 s1 s2 d1 d2 (jI fin (mL k) (zOk k))):=by kernel_rfl
theorem bWk(re:KCB)(wi:aA1)(no fin:KCB)(wh:KFB)(sub:gU)(div:gU)(scl:mO)(W:KW)(R:Type) a1 a2 s1 s2 z1 z2 (k:KVO R):
 fC (cxv P9 [(84,sEI (cT re wi no wh)),(109,sCB re),(110,sCB no),(91,sCB fin),(35,jH sub),(89,jH div),(15,tF scl),(90,sKW W)]) 60 28 [el 3 a1 a2 s1 s2 4620693217682128896,.complex .f64 z1 z2] k =
  wU (cT re wi no wh) re no sub 3 4620693217682128896 (λx=>x) a1 a2 s1 s2 z1 z2 (mL k) (λ_ _=>mL k 6) (λd1 d2=>vB div scl W (some 13844065254536904704) 9 s1 s2 d1 d2 (jI fin (mL k) (zOk k))):=by kernel_rfl
theorem bV9(re:KCB)(wi:aA1)(no fin:KCB)(wh:KFB)(sub:gU)(mul:gU)(scl:mO)(W:KW)(wy:∀R:Type,Nat->Option R->Option R)(R:Type) a1 a2 s1 s2 z1 z2 (k:KVO R):
 fC (cxv P9 [(84,sEI (cT re wi no wh)),(109,sCB re),(110,sCB no),(91,sCB fin),(35,jH sub),(43,jH mul),(15,tF scl),(90,sKW W),(114,bQq wy)]) 60 28 [el 4 a1 a2 s1 s2 4607182418800017408,.complex .f64 z1 z2] k =
  wU (cT re wi no wh) re no sub 4 4607182418800017408 (wy R 4607182418800017408) a1 a2 s1 s2 z1 z2 (mL k) (λd1 d2=>vA mul scl W (some 4607182418800017408) 0 s1 s2 d1 d2 (jI fin (mL k) (zOk k))) (λd1 d2=>vA mul scl W (some 4607182418800017408) 0 s1 s2 d1 d2 (jI fin (mL k) (zOk k))):=by kernel_rfl
theorem bWa(re:KCB)(wi:aA1)(no fin:KCB)(wh:KFB)(sub:gU)(mul:gU)(scl:mO)(W:KW)(wy:∀R:Type,Nat->Option R->Option R)(R:Type) a1 a2 s1 s2 z1 z2 (k:KVO R):
 fC (cxv P9 [(84,sEI (cT re wi no wh)),(109,sCB re),(110,sCB no),(91,sCB fin),(35,jH sub),(43,jH mul),(15,tF scl),(90,sKW W),(114,bQq wy)]) 60 28 [el 4 a1 a2 s1 s2 4611686018427387904,.complex .f64 z1 z2] k =
  wU (cT re wi no wh) re no sub 4 4611686018427387904 (wy R 4611686018427387904) a1 a2 s1 s2 z1 z2 (mL k) (λd1 d2=>vA mul scl W (some 4611686018427387904) 1 s1 s2 d1 d2 (jI fin (mL k) (zOk k))) (λd1 d2=>vA mul scl W (some 4611686018427387904) 1 s1 s2 d1 d2 (jI fin (mL k) (zOk k))):=by kernel_rfl
theorem bWb(re:KCB)(wi:aA1)(no fin:KCB)(wh:KFB)(sub:gU)(mul:gU)(scl:mO)(W:KW)(wy:∀R:Type,Nat->Option R->Option R)(R:Type) a1 a2 s1 s2 z1 z2 (k:KVO R):
 fC (cxv P9 [(84,sEI (cT re wi no wh)),(109,sCB re),(110,sCB no),(91,sCB fin),(35,jH sub),(43,jH mul),(15,tF scl),(90,sKW W),(114,bQq wy)]) 60 28 [el 4 a1 a2 s1 s2 4613937818241073152,.complex .f64 z1 z2] k =
  wU (cT re wi no wh) re no sub 4 4613937818241073152 (wy R 4613937818241073152) a1 a2 s1 s2 z1 z2 (mL k) (λd1 d2=>vA mul scl W (some 4613937818241073152) 2 s1 s2 d1 d2 (jI fin (mL k) (zOk k))) (λd1 d2=>vA mul scl W (some 4613937818241073152) 2 s1 s2 d1 d2 (jI fin (mL k) (zOk k))):=by kernel_rfl
theorem bWc(re:KCB)(wi:aA1)(no fin:KCB)(wh:KFB)(sub:gU)(mul:gU)(scl:mO)(W:KW)(wy:∀R:Type,Nat->Option R->Option R)(R:Type) a1 a2 s1 s2 z1 z2 (k:KVO R):
 fC (cxv P9 [(84,sEI (cT re wi no wh)),(109,sCB re),(110,sCB no),(91,sCB fin),(35,jH sub),(43,jH mul),(15,tF scl),(90,sKW W),(114,bQq wy)]) 60 28 [el 4 a1 a2 s1 s2 4616189618054758400,.complex .f64 z1 z2] k =
  wU (cT re wi no wh) re no sub 4 4616189618054758400 (wy R 4616189618054758400) a1 a2 s1 s2 z1 z2 (mL k) (λd1 d2=>vA mul scl W (some 4616189618054758400) 3 s1 s2 d1 d2 (jI fin (mL k) (zOk k))) (λd1 d2=>vA mul scl W (some 4616189618054758400) 3 s1 s2 d1 d2 (jI fin (mL k) (zOk k))):=by kernel_rfl
theorem cGv(re:KCB)(wi:aA1)(no fin:KCB)(wh:KFB)(sub:gU)(mul:gU)(scl real:mO)(wn:∀R:Type,Nat->Option R->Option R)(R:Type) a1 a2 s1 s2 p z1 z2 (k:KVO R):
 fC (cxv P9 [(84,sEI (cT re wi no wh)),(109,sCB re),(110,sCB no),(91,sCB fin),(35,jH sub),(43,jH mul),(15,tF scl),(165,tF real),(114,cAx wn)]) 60 28 [el 4 a1 a2 s1 s2 p,.complex .f64 z1 z2] k =
  wU (cT re wi no wh) re no sub 4 p (wn R p) a1 a2 s1 s2 z1 z2 (mL k) (λ_ _=>cEj 4607182418800017408 p (mL k)) (λd1 d2=>bIi mul scl real p s1 s2 d1 d2 (jI fin (mL k) (zOk k))):=by kernel_rfl
end Go.Vm
