/- A part; no conditions. -/
import Derived.Test.YtaogignikkjkjaaGreatVmX6
set_option maxRecDepth 1000000
set_option maxHeartbeats 1000000
set_option linter.all false
open Go.Vx.Cp renaming one->O9,ext'->E9,sub_re->S9,sub_im->T9
namespace Go.Vm
open Ieee
theorem bTa:Is 4454258360616747008 (2242054355/36893488147419103232):=aDl (m:=4701928774696960) (n:=86) (by decide) (by decide) (by rw[show(2^86:Nat)=77371252455336267181195264 by decide];norm_cast;grind)
theorem bTb:Is 4297306550709518336 (160220439/79228162514264337593543950336):=aDl (m:=5376105825435648) (n:=121) (by decide) (by decide) (by rw[show(2^121:Nat)=2658455991569831745807614120560689152 by decide];norm_cast;grind)
theorem aJ7{w:Nat}{x:Rat}(h:Is w x)(h0:0<=x)(hx:x<=64/10):∃(y:Nat)(n:Int)(Y:Rat)(N:Nat),Is y Y/\N<=4/\n=((N%4:Nat):Int)/\(Y-(x-(N:Rat)*qP)).abs<=3*eps/\Y.abs<=4/5/\∀(R:Type)(k:Nat->Int->Option R),vJ R w k=k y n:=by
 have ep:=bI;have e6:=bR4;have ts:=pT;have b200:=aA6;have hq:qP=1686629713/1073741824+2242054355/36893488147419103232+160220439/79228162514264337593543950336:=rfl;have ax:x.abs=x:=fZ h0;have ac:(5734161139222659/9007199254740992:Rat).abs=5734161139222659/9007199254740992:=fZ (by grind);obtain⟨v,V,f1,iv,ev,_⟩:=jT h bS4 (by rw[ax,ac];grind);rw[ax,ac]at ev;have gv:=aA.1 ev;have n1:=dI (show x*(5734161139222659/9007199254740992)<=41/10 by grind) (show 0<=eps/4 by grind);have vb:V.abs<=((5:Nat):Rat):=by show V.abs<=5;exact aA.2 ⟨by grind,by grind⟩
 obtain⟨m,M,im,bM,nM,hm⟩:=aM1 (B:=5) iv vb (by decide);have gM:=aA.1 nM;have M0:0<=M:=by
  refine Int.not_lt.1 λhlt=>?_
  have:((M:Int):Rat)<=((-1:Int):Rat):=by exact_mod_cast (show M<=-1 by omega)
  rw[show((-1:Int):Rat)=-1 by norm_cast]at this;grind
 have M4:M<=4:=by
  refine Int.not_lt.1 λhlt=>?_
  have:((5:Int):Rat)<=((M:Int):Rat):=by exact_mod_cast (show 5<=M by omega)
  rw[show((5:Int):Rat)=5 by norm_cast]at this;grind
 obtain⟨N,rfl⟩:∃N:Nat,M=(N:Int):=⟨M.toNat,by omega⟩;have hN4:N<=4:=by omega
 have eN:(((N:Nat):Int):Rat)=(N:Rat):=by norm_cast
 rw[eN]at gM im;have N4:(N:Rat)<=4:=by exact_mod_cast hN4
 have N0:(0:Rat)<=(N:Rat):=by exact_mod_cast Nat.zero_le N
 have aN:(N:Rat).abs=N:=fZ N0;have fl:floatToIntVal .f64 m .i64=some (N:Int):=xR (by rw[eN];exact im) (by omega);have hY:x-(N:Rat)*qP<=79/100/\-(79/100)<=x-(N:Rat)*qP:=by rw[hq];exact⟨by grind,by grind⟩
 have start:∀(R:Type)(k:Nat->Int->Option R),vJ R w k=aW (eqF m 0) λt=>match t with
   |true=>k w 0
   |false=>aOz R w m λr=>k r (bHc (N:Int) 3):=λR k=>by
  unfold vJ aJ6;rw[bD2 h (by rw[ax];grind),aJ];simp only;rw[aK f1,hm,aJ,aJ];cases eqF m 0 with
  |true=>rfl
  |false=>simp only;rw[fl];show aOz R w m (λr=>aG R (N:Int) λn=>k r (bHc n 3))=_;congr 1;funext r;rw[aI]
 cases he:eqF m 0 with
 |true=>
  have hN:(N:Rat)=0:=by rw[qT im is0]at he;simpa using he
  have hN':N=0:=by exact_mod_cast hN
  subst hN';refine⟨w,0,x,0,h,by decide,rfl,?_,?_,λR k=>by rw[start,he,aJ]⟩;· rw[show x-(x-((0:Nat):Rat)*qP)=0 by rw[show((0:Nat):Rat)=0 from rfl];grind,fO];grind
  ·rw[ax];rw[hN]at hY;grind
 |false=>
  have a1:(1686629713/1073741824:Rat).abs=1686629713/1073741824:=fZ (by grind);have a2:(2242054355/36893488147419103232:Rat).abs=2242054355/36893488147419103232:=fZ (by grind);have a3:(160220439/79228162514264337593543950336:Rat).abs=160220439/79228162514264337593543950336:=fZ (by grind);obtain⟨p1,A1,g1,i1,d1,_⟩:=jT im bS8 (by rw[aN,a1];grind);rw[aN,a1]at d1;have l1:=dI (show(N:Rat)*(1686629713/1073741824)<=63/10 by grind) (show 0<=eps/4 by grind);have k1:=aA.1 d1;obtain⟨p2,A2,g2,i2,d2,_⟩:=jT im bTa (by rw[aN,a2];grind);rw[aN,a2]at d2;have l2:=dI (show(N:Rat)*(2242054355/36893488147419103232)<=1/1000 by grind) (show 0<=eps/4 by grind);have k2:=aA.1 d2;obtain⟨p3,A3,g3,i3,d3,_⟩:=jT im bTb (by rw[aN,a3];grind);rw[aN,a3]at d3;have l3:=dI (show(N:Rat)*(160220439/79228162514264337593543950336)<=1/1000 by grind) (show 0<=eps/4 by grind);have k3:=aA.1 d3;have s2:0<=(N:Rat)*(2242054355/36893488147419103232)/\(N:Rat)*(2242054355/36893488147419103232)<=1/1000:=⟨by grind,by grind⟩;have s3:0<=(N:Rat)*(160220439/79228162514264337593543950336)/\(N:Rat)*(160220439/79228162514264337593543950336)<=1/1000:=⟨by grind,by grind⟩;have hy:x-(N:Rat)*qP=x-(N:Rat)*(1686629713/1073741824)-(N:Rat)*(2242054355/36893488147419103232)-(N:Rat)*(160220439/79228162514264337593543950336):=by rw[hq];grind
  rw[hy]at hY;generalize (N:Rat)*(1686629713/1073741824)=q1 at *
  generalize (N:Rat)*(2242054355/36893488147419103232)=q2 at *
  generalize (N:Rat)*(160220439/79228162514264337593543950336)=q3 at *
  have b1:(x-A1).abs<=8/10:=aA.2 ⟨by grind,by grind⟩;obtain⟨x1,X1,g4,i4,r4⟩:=qD h i1 (kA (cR b1 (by grind)));have d4:=r4.fine;have l4:=cG b1 (show 0<=eps/4 by grind);have k4:=aA.1 d4;have b2:(X1-A2).abs<=9/10:=aA.2 ⟨by grind,by grind⟩;obtain⟨x2,X2,g5,i5,r5⟩:=qD i4 i2 (kA (cR b2 (by grind)));have d5:=r5.fine;have l5:=cG b2 (show 0<=eps/4 by grind);have k5:=aA.1 d5;have b3:(X2-A3).abs<=9/10:=aA.2 ⟨by grind,by grind⟩;obtain⟨x3,X3,g6,i6,r6⟩:=qD i5 i3 (kA (cR b3 (by grind)));have d6:=r6.fine;have l6:=cG b3 (show 0<=eps/4 by grind);have k6:=aA.1 d6;have hn:bHc (N:Int) 3=((N%4:Nat):Int):=by
   match N,hN4 with
   |0,_=>decide
   |1,_=>decide
   |2,_=>decide
   |3,_=>decide
   |4,_=>decide
  refine⟨x3,_,X3,N,i6,hN4,hn,by rw[hy];exact aA.2 ⟨by grind,by grind⟩,aA.2 ⟨by grind,by grind⟩,λR k=>?_⟩;rw[start,he,aJ];simp only;unfold aOz;rw[aK g1,aK g4,aK g2,aK g5,aK g3,aK g6]
theorem aF0(d:Rat):tm d 2=d*d/2:=by simp only[tm];rw[Rat.div_def,Rat.div_def,Rat.div_def];rw[show((0+1:Nat):Rat)⁻¹=1 by norm_cast;grind,show((1+1:Nat):Rat)=2 by norm_cast];grind
theorem aHs{d:Rat}(h:d.abs<=1/1000):(csN d-1).abs<=1/1000*d.abs/\(snN d-d).abs<=1/1000*d.abs:=by
 have n0:=aH d;have r:=bCa n0 (show d.abs<=1/2 by grind) 62 1;have t2:tm d.abs (1+1)=d.abs*d.abs/2:=aF0 _;rw[t2]at r;have m0:=cG h n0;have a1:(sm (λm=>reI m*tm d m) (0+1+1) 62).abs<=sm (tm d.abs) (1+1) 62:=aAt _ _ λm _ _=>(oY d m).1
 have a2:(sm (λm=>iI m*tm d m) (0+1+1) 62).abs<=sm (tm d.abs) (1+1) 62:=aAt _ _ λm _ _=>(oY d m).2
 have e1:csN d=reI 0*tm d 0+(reI (0+1)*tm d (0+1)+sm (λm=>reI m*tm d m) (0+1+1) 62):=rfl;have e2:snN d=iI 0*tm d 0+(iI (0+1)*tm d (0+1)+sm (λm=>iI m*tm d m) (0+1+1) 62):=rfl;have r0:reI 0*tm d 0=1:=by show(1:Rat)*1=1;grind
 have i0:iI 0*tm d 0=0:=by show(0:Rat)*1=0;grind
 have r1:reI (0+1)*tm d (0+1)=0:=by show(0:Rat)*_=0;grind
 have i1:iI (0+1)*tm d (0+1)=d:=by rw[show tm d (0+1)=d from bJl d];show(1:Rat)*d=d;grind
 rw[e1,e2,r0,i0,r1,i1];generalize sm (λm=>reI m*tm d m) (0+1+1) 62=A at *
 generalize sm (λm=>iI m*tm d m) (0+1+1) 62=B at *
 constructor;· rw[show 1+(0+A)-1=A by grind];grind
 ·rw[show 0+(d+B)-d=B by grind];grind
theorem bDn{x d:Rat}(h:x.abs<=35/10)(hd:d.abs<=1/1000):(csN (x+d)-csN x).abs<=101/100*d.abs+kP/\(snN (x+d)-snN x).abs<=101/100*d.abs+kP:=by
 obtain⟨a1,a2⟩:=aG9 (x:=x) (y:=d) (by grind);obtain⟨s1,s2⟩:=aHs hd;obtain⟨b1,b2⟩:=bKv h;have t:=bB8;have n0:=aH d;have s3:(snN d).abs<=1001/1000*d.abs:=by have:=aL (snN d-d) d;rw[show snN d-d+d=snN d by grind]at this;grind
 have m1:(csN x*(csN d-1)).abs<=1001/1000*(1/1000*d.abs):=by rw[bD];exact aC b1 s1 (aH _) (by grind)
 have m2:(snN x*snN d).abs<=1001/1000*(1001/1000*d.abs):=by rw[bD];exact aC b2 s3 (aH _) (by grind)
 have m3:(csN x*snN d).abs<=1001/1000*(1001/1000*d.abs):=by rw[bD];exact aC b1 s3 (aH _) (by grind)
 have m4:(snN x*(csN d-1)).abs<=1001/1000*(1/1000*d.abs):=by rw[bD];exact aC b2 s1 (aH _) (by grind)
 have g1:=aA.1 a1;have g2:=aA.1 a2;have g3:=aA.1 m1;have g4:=aA.1 m2;have g5:=aA.1 m3;have g6:=aA.1 m4;exact⟨aA.2 ⟨by grind,by grind⟩,aA.2 ⟨by grind,by grind⟩⟩
def quC:Nat->Rat|0=>1|1=>0|2=>-1|3=>0|_=>1
def quS:Nat->Rat|0=>0|1=>1|2=>0|3=>-1|_=>0
theorem aPx{f g:Rat->Rat}{q e:Rat}(e0:0<=e)(z1:f 0=1)(z2:g 0=0)(h1:(f q).abs<=e/\(g q-1).abs<=e)(h2:(f (2*q)+1).abs<=e/\(g (2*q)).abs<=e)(h3:(f (3*q)).abs<=e/\(g (3*q)+1).abs<=e)(h4:(f (4*q)-1).abs<=e/\(g (4*q)).abs<=e){N:Nat}(h:N<=4):(f ((N:Rat)*q)-quC N).abs<=e/\(g ((N:Rat)*q)-quS N).abs<=e:=by
 obtain⟨q1,q2⟩:=h1;obtain⟨q3,q4⟩:=h2;obtain⟨q5,q6⟩:=h3;obtain⟨q7,q8⟩:=h4;rcases(by omega:N=0\/N=1\/N=2\/N=3\/N=4) with rfl|rfl|rfl|rfl|rfl
 ·rw[show((0:Nat):Rat)*q=0 by rw[show((0:Nat):Rat)=0 from rfl];grind,z1,z2];refine⟨?_,?_⟩
  ·rw[show(1:Rat)-quC 0=0 by show(1:Rat)-1=0;grind,fO];exact e0
  ·rw[show(0:Rat)-quS 0=0 by show(0:Rat)-0=0;grind,fO];exact e0
 ·rw[show((1:Nat):Rat)*q=q by rw[show((1:Nat):Rat)=1 by norm_cast];grind];refine⟨?_,q2⟩;rw[show f q-quC 1=f q by show f q-0=_;grind];exact q1
 ·rw[show((2:Nat):Rat)=2 by norm_cast];refine⟨?_,?_⟩
  ·rw[show f (2*q)-quC 2=f (2*q)+1 by show f (2*q) - -1=_;grind];exact q3
  ·rw[show g (2*q)-quS 2=g (2*q) by show g (2*q)-0=_;grind];exact q4
 ·rw[show((3:Nat):Rat)=3 by norm_cast];refine⟨?_,?_⟩
  ·rw[show f (3*q)-quC 3=f (3*q) by show f (3*q)-0=_;grind];exact q5
  ·rw[show g (3*q)-quS 3=g (3*q)+1 by show g (3*q) - -1=_;grind];exact q6
 ·rw[show((4:Nat):Rat)=4 by norm_cast];refine⟨q7,?_⟩;rw[show g (4*q)-quS 4=g (4*q) by show g (4*q)-0=_;grind];exact q8
theorem aAj{N:Nat}(h:N<=4):(csN ((N:Rat)*qP)-quC N).abs<=kP/\(snN ((N:Rat)*qP)-quS N).abs<=kP:=
 aPx (bN pJ.1) aD6.1 aD6.2 bAu bAv bAw bAx h
theorem aFh{A B U V C S a b e t:Rat}(k0:0<=e)(q1:(A-a).abs<=e)(q2:(B-b).abs<=e)(b1:C.abs<=1001/1000)(b2:S.abs<=1001/1000)(ht:t<=e)(a1:(U-(A*C-B*S)).abs<=t)(a2:(V-(A*S+B*C)).abs<=t):
  (U-(a*C-b*S)).abs<=4*e/\(V-(a*S+b*C)).abs<=4*e:=by
 have m1:((A-a)*C).abs<=e*(1001/1000):=by rw[bD];exact aC q1 b1 (aH _) k0
 have m2:((A-a)*S).abs<=e*(1001/1000):=by rw[bD];exact aC q1 b2 (aH _) k0
 have m3:((B-b)*C).abs<=e*(1001/1000):=by rw[bD];exact aC q2 b1 (aH _) k0
 have m4:((B-b)*S).abs<=e*(1001/1000):=by rw[bD];exact aC q2 b2 (aH _) k0
 have g1:=aA.1 a1;have g2:=aA.1 a2;have g3:=aA.1 m1;have g4:=aA.1 m2;have g5:=aA.1 m3;have g6:=aA.1 m4;exact⟨aA.2 ⟨by grind,by grind⟩,aA.2 ⟨by grind,by grind⟩⟩
theorem aCl{N:Nat}(h:N<=4){q:Rat}(h0:0<=q)(hq:q<=1575/1000):((N:Rat)*q).abs<=63/10:=by
 have N4:(N:Rat)<=4:=by exact_mod_cast h
 have N0:(0:Rat)<=(N:Rat):=by exact_mod_cast Nat.zero_le N
 rw[fZ (bU N0 h0)];have:=aC N4 hq h0 (show(0:Rat)<=4 by decide);grind
theorem aJ5:0<=qP/\qP<=1575/1000:=by have:=bUz;exact⟨by grind,by grind⟩
theorem bF5{a b:Rat}(h:a.abs<=63/10)(g:b.abs<=9/10):a.abs+b.abs<=8:=by grind
theorem bBc{b:Rat}(g:b.abs<=9/10):b.abs<=35/10:=by grind
theorem aPw{N:Nat}(h:N<=4){y:Rat}(hy:y.abs<=9/10):(csN ((N:Rat)*qP+y)-(quC N*csN y-quS N*snN y)).abs<=4*kP/\(snN ((N:Rat)*qP+y)-(quC N*snN y+quS N*csN y)).abs<=4*kP:=by have na:=aCl h aJ5.1 aJ5.2;have a:=aG9 (x:=(N:Rat)*qP) (y:=y) (bF5 na hy);have b:=bKv (x:=y) (bBc hy);exact aFh (bN pJ.1) (aAj h).1 (aAj h).2 b.1 b.2 bB8 a.1 a.2
theorem bF9(a x:Rat):a+(x-a)=x:=by grind
theorem bCg{Y Z S C:Rat}(dY:(Y-Z).abs<=3*eps)(bY:Y.abs<=4/5)(dS:(S-snN Y).abs<=2*eps)(dC:(C-csN Y).abs<=2*eps):Z.abs<=9/10/\(S-snN Z).abs<=6*eps-8*kP/\(C-csN Z).abs<=6*eps-8*kP:=by
 have ep:=bI;obtain⟨k0,k1⟩:=pJ;have e6:=bR4;have bd:(Y-Z).abs<=1/1000:=by grind
 have g1:=aA.1 bd;have g2:=aA.1 bY;have aZ:Z.abs<=9/10:=aA.2 ⟨by grind,by grind⟩;obtain⟨t1,t2⟩:=bDn (x:=Z) (d:=Y-Z) (bBc aZ) bd;rw[show Z+(Y-Z)=Y by grind]at t1 t2;refine⟨aZ,?_,?_⟩;· have:=aL (S-snN Y) (snN Y-snN Z);rw[show S-snN Y+(snN Y-snN Z)=S-snN Z by grind]at this;grind
 ·have:=aL (C-csN Y) (csN Y-csN Z);rw[show C-csN Y+(csN Y-csN Z)=C-csN Z by grind]at this;grind
def tnS(N:Nat)(s c:Nat):Nat:=match N with|1=>c|2=>Op.negFloat .f64 s|3=>Op.negFloat .f64 c|_=>s
def tnC(N:Nat)(s c:Nat):Nat:=match N with|1=>Op.negFloat .f64 s|2=>Op.negFloat .f64 c|3=>Op.negFloat .f64 (Op.negFloat .f64 s)|_=>c
theorem bCh{w y s c N:Nat}(hN:N<=4){n:Int}(hn:n=((N%4:Nat):Int))(hq:∀(R:Type)(k:Nat->Int->Option R),vJ R w k=k y n)(hs:∀(R:Type)(k:KNN R),yC R y k=k s c)(R:Type)(k:KNN R):yV R w k=k (tnS N s c) (tnC N s c):=by
 unfold yV bPk;rw[hq,hs,hn,aJ];rcases(by omega:N=0\/N=1\/N=2\/N=3\/N=4) with rfl|rfl|rfl|rfl|rfl;· show aW ((0:Int)==1) _=_;rw[aJ];show aW ((0:Int)==2) _=_;rw[aJ];rfl
 ·show aW ((1:Int)==1) _=_;rw[aJ];show bH _ _=_;rw[cB];rfl
 ·show aW ((2:Int)==1) _=_;rw[aJ];show aW ((2:Int)==2) _=_;rw[aJ];show bH _ _=_;rw[cB,cB];rfl
 ·show bH _ _=_;rw[cB,cB,cB];rfl
 ·show aW ((0:Int)==1) _=_;rw[aJ];show aW ((0:Int)==2) _=_;rw[aJ];rfl
theorem bGd{N s c:Nat}(hN:N<=4){S C sz cz sx cx:Rat}(is':Is s S)(ic:Is c C)(u1:(S-sz).abs<=6*eps-8*kP)(u2:(C-cz).abs<=6*eps-8*kP)(q1:(cx-(quC N*cz-quS N*sz)).abs<=4*kP)(q2:(sx-(quC N*sz+quS N*cz)).abs<=4*kP):
  ∃S' C',Is (tnS N s c) S'/\Is (tnC N s c) C'/\(S'-sx).abs<=6*eps/\(C'-cx).abs<=6*eps:=by
 have k0:=pJ.1;have v1:=aA.1 u1;have v2:=aA.1 u2;have g1:=aA.1 q1;have g2:=aA.1 q2;have ns:=wJ is';have nc:=wJ ic;have nns:=wJ ns;rcases(by omega:N=0\/N=1\/N=2\/N=3\/N=4) with rfl|rfl|rfl|rfl|rfl;· simp only[quC,quS]at g1 g2;exact⟨S,C,is',ic,aA.2 ⟨by grind,by grind⟩,aA.2 ⟨by grind,by grind⟩⟩
 ·simp only[quC,quS]at g1 g2;exact⟨C,-S,ic,ns,aA.2 ⟨by grind,by grind⟩,aA.2 ⟨by grind,by grind⟩⟩
 ·simp only[quC,quS]at g1 g2;exact⟨-S,-C,ns,nc,aA.2 ⟨by grind,by grind⟩,aA.2 ⟨by grind,by grind⟩⟩
 ·simp only[quC,quS]at g1 g2;exact⟨-C,- -S,nc,nns,aA.2 ⟨by grind,by grind⟩,aA.2 ⟨by grind,by grind⟩⟩
 ·simp only[quC,quS]at g1 g2;exact⟨S,C,is',ic,aA.2 ⟨by grind,by grind⟩,aA.2 ⟨by grind,by grind⟩⟩
theorem aV3{w:Nat}{x:Rat}(h:Is w x)(h0:0<=x)(hx:x<=64/10):∃s c S C,Is s S/\Is c C/\(S-snN x).abs<=6*eps/\(C-csN x).abs<=6*eps/\∀(R:Type)(k:KNN R),yV R w k=k s c:=by obtain⟨y,n,Y,N,iy,hN,hn,dY,bY,hq⟩:=aJ7 h h0 hx;obtain⟨s,c,S,C,is',ic,dS,dC,hs⟩:=aQl iy bY;obtain⟨aZ,u1,u2⟩:=bCg dY bY dS dC;have q:=aPw hN aZ;rw[show(N:Rat)*qP+(x-(N:Rat)*qP)=x from bF9 _ _]at q;obtain⟨S',C',i1,i2,d1,d2⟩:=bGd hN is' ic u1 u2 q.1 q.2;exact⟨_,_,S',C',i1,i2,d1,d2,bCh hN hn hq hs⟩
end Go.Vm
namespace Go.Vx
open Go.Vm
def om(x:Rat):Cp:=⟨csN x,snN x⟩
theorem kp0:0<=kP:=bN pJ.1
theorem qN:kP<=1/1000000000000000000000000000:=by unfold kP;decide +kernel
theorem aZ9:om 0=O9:=E9 aD6.1 aD6.2
theorem bFc(x:Rat):(om x).re=csN x:=rfl
theorem bFb(x:Rat):(om x).im=snN x:=rfl
theorem bUh{a b c:Cp}{t e:Rat}(h0:0<=e)(ht:t<=e)(a1:(a.re-(b.re*c.re-b.im*c.im)).abs<=t)(a2:(a.im-(b.re*c.im+b.im*c.re)).abs<=t):Nm (a-b*c) (2*e):=by
 refine(vG (r:=e) ?_ ?_).mono (by grind);· simp only[S9,Cp.mul_re];exact cR a1 ht
 ·simp only[T9,Cp.mul_im];exact cR a2 ht
theorem aS2{x y:Rat}(h:x.abs+y.abs<=8):Nm (om (x+y)-om x*om y) (2*kP):=
 bUh (a:=om (x+y)) (b:=om x) (c:=om y) kp0 bB8 (by simp only[bFc,bFb];exact(aG9 h).1) (by simp only[bFc,bFb];exact(aG9 h).2)
theorem bUj{x:Rat}(h:x.abs<=35/10):((om x).nsq-1).abs<=kP:=cR (bHo h) bB8
theorem bE8{z:Cp}{e:Rat}(h0:0<=e)(h:(z.nsq-1).abs<=e):Nm z (1+e):=by have g:=aA.1 h;have:=bU h0 h0;exact⟨by grind,by grind⟩
theorem aPr{x:Rat}(h:x.abs<=35/10):Nm (om x) (1+kP):=bE8 kp0 (bUj h)
theorem bFa{x:Rat}(h:x.abs<=7):Nm (om x) (1+6*kP):=by
 have h2:(x/2).abs<=35/10:=by have g:=aA.1 h;exact aA.2 ⟨by grind,by grind⟩
 have a:=aS2 (x:=x/2) (y:=x/2) (by grind);rw[show x/2+x/2=x by grind]at a;have b:=aPr h2;refine(a.near (b.mul b)).mono ?_;have k:=kp0;have k2:=qN;generalize kP=e at *
 have:=dI (show e<=1 by grind) k;grind
theorem aZ7{x:Rat}(h:x.abs<=7):((om x).nsq-1).abs<=20*kP:=by
 have h2:(x/2).abs<=35/10:=by have g:=aA.1 h;exact aA.2 ⟨by grind,by grind⟩
 have a:=aS2 (x:=x/2) (y:=x/2) (by grind);rw[show x/2+x/2=x by grind]at a;have b:=bUj h2;have c:=bFa h;have k:=kp0;have k2:=qN;have d:=(aPr h2).mul (aPr h2);have e1:(om x).nsq-((om (x/2)).nsq*(om (x/2)).nsq)=(om x-om (x/2)*om (x/2)).re*(om x+om (x/2)*om (x/2)).re+(om x-om (x/2)*om (x/2)).im*(om x+om (x/2)*om (x/2)).im:=by rw[<-Cp.nsq_mul];unfold Cp.nsq;simp only[S9,T9,Cp.add_re,Cp.add_im];grind
 have s:=c.add d;have p1:((om x-om (x/2)*om (x/2)).re*(om x+om (x/2)*om (x/2)).re).abs<=2*kP*(1+6*kP+(1+kP)*(1+kP)):=by rw[bD];exact aC a.re s.re (aH _) a.1
 have p2:((om x-om (x/2)*om (x/2)).im*(om x+om (x/2)*om (x/2)).im).abs<=2*kP*(1+6*kP+(1+kP)*(1+kP)):=by rw[bD];exact aC a.im s.im (aH _) a.1
 have b':=aA.1 b;have q1:=aA.1 p1;have q2:=aA.1 p2;generalize (om x-om (x/2)*om (x/2)).re*(om x+om (x/2)*om (x/2)).re=U at *
 generalize (om x-om (x/2)*om (x/2)).im*(om x+om (x/2)*om (x/2)).im=V at *
 generalize (om x).nsq=A at *
 generalize (om (x/2)).nsq=B at *
 clear a c d s p1 p2;generalize kP=e at *
 have m1:=dI (show e<=1/1000 by grind) k;have m2:((B-1)*(B-1)).abs<=e*e:=by rw[bD];exact aC b b (aH _) k
 have m3:=aA.1 m2;have w:2*e*(1+6*e+(1+e)*(1+e))<=5*e:=by have:=dI (show 1+6*e+(1+e)*(1+e)<=5/2 by grind) (show 0<=2*e by grind);grind
 exact aA.2 ⟨by grind,by grind⟩
theorem bPh{t c:Rat}(h0:0<=t)(h:t<=c):∀m,c*c*tm t (m+2)<=t*t*tm c (m+2):=by
 have c0:=cR h0 h;intro m;induction m with
 |zero=>rw[show 0+2=2 from rfl,aF0,aF0];grind
 |succ m ih=>
  have e1:tm t (m+1+2)=tm t (m+2)*t/((m+2+1:Nat):Rat):=rfl;have e2:tm c (m+1+2)=tm c (m+2)*c/((m+2+1:Nat):Rat):=rfl;rw[e1,e2,Rat.div_def,Rat.div_def];have hq:(0:Rat)<=(((m+2+1:Nat):Rat))⁻¹:=bN (Rat.inv_pos.2 (by exact_mod_cast Nat.succ_pos _));have n2:=sS c0 (m+2);clear e1 e2;generalize (((m+2+1:Nat):Rat))⁻¹=q at *
  generalize tm t (m+2)=A at *
  generalize tm c (m+2)=B at *
  have m1:=cG ih (bU h0 hq);have tt:=bU h0 h0;have m2:=cG h (bU (bU tt n2) hq);grind
theorem bHn{t:Rat}(h0:0<=t)(h:t<=3/2):csN t<=1-t*t/4:=by
 have key:∀m,(3/2)*(3/2)*tm t (m+2)<=t*t*tm (3/2) (m+2):=bPh h0 h;have num:sm (tm (3/2)) 4 60<=3/10:=by decide +kernel
 have a4:(sm (λm=>reI m*tm t m) 4 60).abs<=sm (tm t) 4 60:=by
  have:=aAt (f:=λm=>reI m*tm t m) (g:=tm t.abs) 60 4 λm _ _=>(oY t m).1
  rwa[fZ h0]at this
 have b4:(3/2)*(3/2)*sm (tm t) 4 60<=t*t*sm (tm (3/2)) 4 60:=by
  rw[<-wQ,<-wQ];refine aKl _ _ _ _ λm hm _=>?_
  obtain⟨j,rfl⟩:∃j,m=j+2:=⟨m-2,by omega⟩;exact key j
 have split:csN t=sm (λm=>reI m*tm t m) 0 4+sm (λm=>reI m*tm t m) 4 60:=pQ _ 4 60 0;have front:sm (λm=>reI m*tm t m) 0 4=1-t*t/2:=by simp only[sm,Nat.zero_add,Nat.reduceAdd,show reI 0=1 from rfl,show reI 1=0 from rfl,show reI 2=-1 from rfl,show reI 3=0 from rfl,aF0,show tm t 0=1 from rfl];grind
 have g:=aA.1 a4;have tt:=bU h0 h0;have m3:=dI num tt;rw[split,front];generalize sm (λm=>reI m*tm t m) 4 60=A at *
 generalize sm (tm t) 4 60=B at *
 generalize sm (tm (3/2)) 4 60=C at *
 grind
theorem bRt{y:Rat}(h:y.abs<=165/100):-(9/10)<=csN y:=by
 have num:sm (tm (165/100)) 4 60<=1/2:=by decide +kernel
 have a4:(sm (λm=>reI m*tm y m) 4 60).abs<=sm (tm (165/100)) 4 60:=by refine aAt _ _ λm _ _=>cR (oY y m).1 (aFz (aH y) h m)
 have split:csN y=sm (λm=>reI m*tm y m) 0 4+sm (λm=>reI m*tm y m) 4 60:=pQ _ 4 60 0;have front:sm (λm=>reI m*tm y m) 0 4=1-y*y/2:=by simp only[sm,Nat.zero_add,Nat.reduceAdd,show reI 0=1 from rfl,show reI 1=0 from rfl,show reI 2=-1 from rfl,show reI 3=0 from rfl,aF0,show tm y 0=1 from rfl];grind
 have g:=aA.1 a4;have sq:=bBp h;rw[split,front];generalize sm (λm=>reI m*tm y m) 4 60=A at *
 generalize sm (tm (165/100)) 4 60=C at *
 grind
theorem aFe{e:Rat}(h0:0<=e):∀(m:Nat),(m:Rat)*e<=1/2->(1+e)^m<=1+2*(m:Rat)*e
 |0,_=>by rw[Rat.pow_zero,show((0:Nat):Rat)=0 from rfl];grind
 |m+1,h=>by
  have c:((m+1:Nat):Rat)=(m:Rat)+1:=by push_cast;rfl
  rw[c]at h⊢;have ih:=aFe h0 m (by grind);have m0:(0:Rat)<=(m:Rat):=by exact_mod_cast Nat.zero_le m
  rw[Rat.pow_succ];have h1:=cG ih (show 0<=1+e by grind);have h2:=cG (show(m:Rat)*e<=1/2 by grind) h0;grind
theorem xK{r:Rat}(h:1<=r):∀m:Nat,1<=r^m
 |0=>by rw[Rat.pow_zero];exact Rat.le_refl
 |m+1=>by have ih:=xK h m;have:=aC ih h (by decide) (cR (by decide) ih);rw[Rat.pow_succ];grind
theorem eU{r:Rat}(h:1<=r){m n:Nat}(hm:m<=n):r^m<=r^n:=by obtain⟨j,rfl⟩:∃j,n=m+j:=⟨n-m,by omega⟩;rw[pow_add];have:=dI (xK h j) (cR (by decide) (xK h m));grind
theorem aJ4{a b:Cp}{r d:Rat}(ha:Nm a r)(hb:Nm b r)(h1:1<=r)(hd:Nm (a-b) d):∀m:Nat,Nm (a.pw m-b.pw m) ((m:Rat)*d*r^m)
 |0=>by show Nm (O9-O9) _;rw[Cp.sub_self,show((0:Nat):Rat)=0 from rfl];exact jM.mono (by grind)
 |m+1=>by
  have ih:=aJ4 ha hb h1 hd m;have e:a.pw (m+1)-b.pw (m+1)=(a.pw m-b.pw m)*a+b.pw m*(a-b):=by simp only[Cp.pw];rw[Cp.sub_mul,Cp.mul_sub];exact E9 (by simp only[Cp.add_re,S9];grind) (by simp only[Cp.add_im,T9];grind)
  rw[e];refine((ih.mul ha).add ((xV hb m).mul hd)).mono ?_;have c:((m+1:Nat):Rat)=(m:Rat)+1:=by push_cast;rfl
  rw[c,Rat.pow_succ];have p:=bU (cR (by decide) (xK h1 m)) hd.1;have:=dI h1 p;grind
theorem aLr(f:Nat->Cp):∀n,csm (λk=>f (k+1)) n=csm f n+(f n-f 0)
 |0=>by simp only[csm];rw[Cp.sub_self,Cp.add_zero]
 |n+1=>by simp only[csm];rw[aLr f n];exact E9 (by simp only[Cp.add_re,S9];grind) (by simp only[Cp.add_im,T9];grind)
theorem aE3{a b:Cp}{c d:Rat}(h:Ng a c)(hc:0<c)(g:Nm (a*b) (c*d)):Nm b d:=by
 have d0:0<=d:=by
  refine Rat.not_lt.1 λhl=>?_
  have:=Rat.mul_lt_mul_of_pos_left hl hc;have:=g.1;grind
 refine⟨d0,?_⟩;have g2:=g.2;rw[Cp.nsq_mul]at g2;have h5:=cG h.2 b.nsq_nonneg;have p1:=Rat.mul_pos hc hc;generalize b.nsq=S at *
 refine Rat.not_lt.1 λhl=>?_
 have:=Rat.mul_lt_mul_of_pos_left hl p1;grind
theorem aFg{N:Nat}(h:N<=4){y:Rat}(hy:y.abs<=17/10):(csN ((N:Rat)*qP+y)-(quC N*csN y-quS N*snN y)).abs<=4*kP/\(snN ((N:Rat)*qP+y)-(quC N*snN y+quS N*csN y)).abs<=4*kP:=by
 have na:=aCl h aJ5.1 aJ5.2;have s:∀{a:Rat},a.abs<=63/10->a.abs+y.abs<=8:=λha=>by grind
 have s2:y.abs<=35/10:=by grind
 have a:=aG9 (x:=(N:Rat)*qP) (y:=y) (s na);have b:=bKv (x:=y) s2;exact aFh (bN pJ.1) (aAj h).1 (aAj h).2 b.1 b.2 bB8 a.1 a.2
structure aUf(Q:Rat):Prop where
 eq:Q=((4:Nat):Rat)*qP
theorem aIk{Q:Rat}(h:aUf Q):628318/100000<=Q/\Q<=628319/100000:=by
 rw[h.eq];have:=bUz;have e:((4:Nat):Rat)=4:=by norm_cast
 rw[e];generalize qP=q at *
 exact⟨by grind,by grind⟩
theorem bDc{Q:Rat}(h:aUf Q):Nm (om Q-O9) (2*kP):=by
 obtain⟨q1,q2⟩:=aAj (N:=4) (by decide);rw[<-h.eq]at q1 q2;refine(vG (r:=kP) ?_ ?_).mono (by have:=kp0;generalize kP=e at *;grind);· rw[S9,bFc,Cp.one_re];exact q1
 ·rw[T9,bFb,Cp.one_im];exact q2
theorem bDf{Q y:Rat}(h:aUf Q)(hy:y.abs<=165/100):csN (Q/2+y)<=91/100:=by
 have q:=(aFg (N:=2) (by decide) (y:=y) (by grind)).1;have e:((2:Nat):Rat)*qP=Q/2:=by rw[h.eq,show((4:Nat):Rat)=4 by norm_cast,show((2:Nat):Rat)=2 by norm_cast];generalize qP=q;grind
 rw[e]at q;have c:=bRt hy;have k:=qN;have g:=aA.1 q;simp only[quC,quS]at g;generalize kP=e at *
 generalize csN (Q/2+y)=A at *
 generalize csN y=B at *
 generalize snN y=C at *
 grind
theorem bDd{Q s:Rat}(h:aUf Q)(h0:0<=s)(hs:s<=3/2):csN (Q-s)<=1-s*s/4+4*kP:=by
 have q:=(aFg (N:=4) (by decide) (y:=-s) (by rw[abs_neg,fZ h0];grind)).1;rw[<-h.eq,(aRb s).1,(aRb s).2,show Q+-s=Q-s by grind]at q;have c:=bHn h0 hs;have g:=aA.1 q;simp only[quC,quS]at g;generalize kP=e at *
 generalize csN (Q-s)=A at *
 generalize csN s=B at *
 generalize snN s=C at *
 grind
theorem bDe{Q t h:Rat}(hQ:aUf Q)(h0:1227/100000<=h)(h1:h<=t)(h2:t<=Q-h):csN t<=1-1/30000:=by
 obtain⟨c1,c2⟩:=aIk hQ;have hh:1227/100000*(1227/100000)<=h*h:=oX (by grind) h0;have k:=qN;rcases(Rat.le_total:t<=3/2\/3/2<=t) with ht|ht;· have:=bHn (t:=t) (by grind) ht;have:=oX (show 0<=h by grind) h1;grind
 ·rcases(Rat.le_total:t<=Q-3/2\/Q-3/2<=t) with hu|hu
  ·have:=bDf hQ (y:=t-Q/2) (aA.2 ⟨by grind,by grind⟩);rw[show Q/2+(t-Q/2)=t by grind]at this;grind
  ·have:=bDd hQ (s:=Q-t) (by grind) (by grind);rw[show Q-(Q-t)=t by grind]at this;have:=oX (show 0<=h by grind) (show h<=Q-t by grind);generalize kP=e at *
   grind
theorem bUi{Q t h:Rat}(hQ:aUf Q)(h0:1227/100000<=h)(h1:h<=t)(h2:t<=Q-h):Ng (om t-O9) (1/200):=by
 obtain⟨c1,c2⟩:=aIk hQ;have l:=bDe hQ h0 h1 h2;have b:=aA.1 (aZ7 (x:=t) (aA.2 ⟨by grind,by grind⟩));refine⟨by grind,?_⟩;have e:(om t-O9).nsq=(om t).nsq-2*csN t+1:=by unfold Cp.nsq;rw[S9,T9,bFc,bFb,Cp.one_re,Cp.one_im];generalize csN t=A;generalize snN t=B;grind
 rw[e];have k:=qN;generalize (om t).nsq=N at *
 generalize csN t=A at *
 generalize kP=e at *
 grind
section
variable{Q h:Rat}{n:Nat}(hQ:aUf Q)(n1:128<=n)(n2:n<=512)(hh:(n:Rat)*h=Q)
include hQ n1 n2 hh
theorem bZk:1227/100000<=h/\h<=1/20:=by
 obtain⟨c1,c2⟩:=aIk hQ;have a:(128:Rat)<=(n:Rat):=by exact_mod_cast n1
 have b:(n:Rat)<=512:=by exact_mod_cast n2
 constructor
 ·refine Rat.not_lt.1 λhl=>?_
  have:=Rat.mul_lt_mul_of_pos_left hl (show 0<(n:Rat) by grind);have:=cG b (show(0:Rat)<=1227/100000 by grind);grind
 ·refine Rat.not_lt.1 λhl=>?_
  have:=Rat.mul_lt_mul_of_pos_left hl (show 0<(n:Rat) by grind);have:=cG a (show(0:Rat)<=1/20 by grind);grind
theorem bZ4{k:Nat}(hk:k<=n):0<=(k:Rat)*h/\(k:Rat)*h<=63/10:=by
 obtain⟨c1,c2⟩:=aIk hQ;obtain⟨h1,h2⟩:=bZk hQ n1 n2 hh;have a:(k:Rat)<=(n:Rat):=by exact_mod_cast hk
 have k0:(0:Rat)<=(k:Rat):=by exact_mod_cast Nat.zero_le k
 have:=cG a (show 0<=h by grind);exact⟨bU k0 (by grind),by grind⟩
theorem aHe{k:Nat}(hk:k<=n):((k:Rat)*h).abs<=63/10/\h.abs<=1/20:=by obtain⟨a,b⟩:=bZ4 hQ n1 n2 hh hk;obtain⟨h1,h2⟩:=bZk hQ n1 n2 hh;exact⟨aA.2 ⟨by grind,by grind⟩,aA.2 ⟨by grind,by grind⟩⟩
theorem aZ8{k:Nat}(hk:k<=n):Nm (om ((k+1:Nat)*h)-om ((k:Rat)*h)*om h) (2*kP):=by obtain⟨a,b⟩:=aHe hQ n1 n2 hh hk;have:=aS2 (x:=(k:Rat)*h) (y:=h) (by grind);rwa[show(k:Rat)*h+h=((k+1:Nat):Rat)*h by push_cast;grind]at this
theorem bCz{k:Nat}(hk:k<=n):Nm (om ((k:Rat)*h)) (1+6*kP):=bFa (by have:=(aHe hQ n1 n2 hh hk).1;grind)
theorem cEl:Nm (om h) (1+6*kP):=bFa (by have:=(aHe hQ n1 n2 hh (Nat.le_refl n)).2;grind)
theorem cAk{m:Nat}(hm:m<=n):Nm ((om h).pw m-om ((m:Rat)*h)) (4*(m:Rat)*kP):=by
 induction m with
 |zero=>rw[show((0:Nat):Rat)=0 from rfl,show(0:Rat)*h=0 by grind,aZ9];show Nm (O9-O9) _;rw[Cp.sub_self];exact jM.mono (by generalize kP=e;grind)
 |succ m ih=>
  have ih:=ih (by omega);have s:=(aZ8 hQ n1 n2 hh (k:=m) (by omega)).comm;have oh:=cEl hQ n1 n2 hh;have e:(om h).pw (m+1)-om ((m+1:Nat)*h)=((om h).pw m-om ((m:Rat)*h))*om h+(om ((m:Rat)*h)*om h-om ((m+1:Nat)*h)):=by simp only[Cp.pw];rw[Cp.sub_mul];exact E9 (by simp only[Cp.add_re,S9];grind) (by simp only[Cp.add_im,T9];grind)
  rw[e];refine((ih.mul oh).add s).mono ?_;have c:((m+1:Nat):Rat)=(m:Rat)+1:=by push_cast;rfl
  rw[c];have m1:(m:Rat)<=512:=by exact_mod_cast (show m<=512 by omega)
  have k:=qN;have k0:=kp0;clear ih s oh e c;generalize kP=e at *
  have q1:=cG m1 (bU k0 k0);have q2:=cG k k0;grind
theorem bIt{m:Nat}(hm1:1<=m)(hm2:m<=127):Nm (csm (λk=>(om ((k:Rat)*h)).pw m) n) ((n:Rat)*((m:Rat)*(1/100000000000000000000000))):=by
 obtain⟨h1,h2⟩:=bZk hQ n1 n2 hh;have k:=qN;have k0:=kp0;have m0:(1:Rat)<=(m:Rat):=by exact_mod_cast hm1
 have m1:(m:Rat)<=127:=by exact_mod_cast hm2
 have nn:(128:Rat)<=(n:Rat):=by exact_mod_cast n1
 have r2:(1+13*kP)^m<=2:=by
  have:=aFe (e:=13*kP) (by generalize kP=e at *;grind) m (by
   have:=cG m1 k0;generalize kP=e at *
   grind)
  have q:=cG m1 k0;generalize kP=e at *
  grind
 have hp:=cAk hQ n1 n2 hh (m:=m) (by omega);have mh:h<=(m:Rat)*h/\(m:Rat)*h<=Q-h:=by
  have a:=cG m0 (show 0<=h by grind);have b:(m:Rat)+1<=(n:Rat):=by exact_mod_cast (show m+1<=n by omega)
  have c:=cG b (show 0<=h by grind);exact⟨by grind,by grind⟩
 have off:=bUi hQ h1 mh.1 mh.2;have offP:Ng ((om h).pw m-O9) (1/300):=by
  have:=oG off hp (by
   have q:=cG m1 k0;generalize kP=e at *
   grind)
  rw[show om ((m:Rat)*h)-O9+((om h).pw m-om ((m:Rat)*h))=(om h).pw m-O9 from E9 (by simp only[Cp.add_re,S9];grind) (by simp only[Cp.add_im,T9];grind)]at this;refine this.mono (by grind) ?_;have q:=cG m1 k0;generalize kP=e at *
  grind
 have hk13:∀{z:Cp},Nm z (1+6*kP)->Nm z (1+13*kP):=λhz=>hz.mono (by generalize kP=e at *;grind)
 have one13:1<=1+13*kP:=by generalize kP=e at *;grind
 have D:∀k,k<n->Nm ((om ((k+1:Nat)*h)).pw m-((om ((k:Rat)*h))*om h).pw m) ((m:Rat)*(2*kP)*2):=λk hk=>by
  have a:=hk13 (bCz hQ n1 n2 hh (k:=k+1) (by omega));have b:Nm (om ((k:Rat)*h)*om h) (1+13*kP):=((bCz hQ n1 n2 hh (k:=k) (by omega)).mul (cEl hQ n1 n2 hh)).mono (by
   generalize kP=e at *
   have:=dI k k0;grind)
  refine(aJ4 a b one13 (aZ8 hQ n1 n2 hh (k:=k) (by omega)) m).mono ?_;exact dI r2 (bU (by grind) (by generalize kP=e at *;grind))
 have En:Nm ((om ((n:Rat)*h)).pw m-O9) ((m:Rat)*(2*kP)*2):=by have a:=hk13 (bCz hQ n1 n2 hh (k:=n) (Nat.le_refl n));have c:=bDc hQ;rw[<-hh]at c;have:=aJ4 a (aHi.mono one13) one13 c m;rw[Cp.pw_unit]at this;refine this.mono ?_;exact dI r2 (bU (by grind) (by generalize kP=e at *;grind))
 have key:((om h).pw m-O9)*csm (λk=>(om ((k:Rat)*h)).pw m) n=(((om ((n:Rat)*h)).pw m)-O9)-csm (λk=>(om ((k+1:Nat)*h)).pw m-((om ((k:Rat)*h))*om h).pw m) n:=by
  rw[tJ,aLr (λk=>(om ((k:Rat)*h)).pw m) n];have e1:csm (λk=>((om ((k:Rat)*h))*om h).pw m) n=(om h).pw m*csm (λk=>(om ((k:Rat)*h)).pw m) n:=by
   rw[<-lR];refine cA λk _=>?_
   rw[Cp.pw_mul,Cp.mul_comm]
  rw[e1,Cp.sub_mul,Cp.one_mul];have e0:(om (((0:Nat):Rat)*h)).pw m=O9:=by rw[show((0:Nat):Rat)=0 from rfl,show(0:Rat)*h=0 by grind,aZ9,Cp.pw_unit]
  rw[e0];exact E9 (by simp only[Cp.add_re,S9];grind) (by simp only[Cp.add_im,T9];grind)
 have tot:=En.sub (aHh D);rw[<-key]at tot;refine aE3 offP (by grind) (tot.mono ?_);clear key tot D En offP off hp r2 hk13 one13;generalize kP=e at *
 have a1:=cG k (show 0<=(m:Rat) by grind);have a2:=dI a1 (show 0<=(n:Rat) by grind);have a3:=cG (show(1:Rat)<=(n:Rat) by grind) (bU k0 (show 0<=(m:Rat) by grind));have a4:=bU (show 0<=(n:Rat) by grind) (show 0<=(m:Rat) by grind);grind
end
end Go.Vx
