/- A part; no conditions. -/
import Derived.Test.YtaogignikkjkjaaGreatVmGC
set_option maxRecDepth 1000000
set_option maxHeartbeats 1000000
set_option linter.all false
open Nat renaming beq->N9
open Go renaming Program->Q9,FuncId->F9,Code->H9
namespace Go.Vm
open Ieee
theorem bG(q:Int):(0:Rat)<(2:Rat)^q:=Rat.zpow_pos (by decide)
theorem bO(p q:Int):(2:Rat)^(p+q)=(2:Rat)^p*(2:Rat)^q:=Rat.zpow_add (by decide) p q
theorem cN(n:Nat):(2:Rat)^(n:Int)=((2^n:Nat):Rat):=by rw[Rat.zpow_natCast];exact_mod_cast rfl
theorem aFb(n:Nat):(1:Rat)<=(2:Rat)^(n:Int):=by rw[cN];have:1<=2^n:=Nat.one_le_two_pow;exact_mod_cast this
theorem cY{p q:Int}(h:p<=q):(2:Rat)^p<=(2:Rat)^q:=by obtain⟨n,hn⟩:=Int.eq_ofNat_of_zero_le (show 0<=q-p by omega);rw[show q=p+n by omega,bO];have h1:=aFb n;have h2:=dI h1 (bN (bG p));grind
theorem xL{p q:Int}(h:(2:Rat)^p<(2:Rat)^q):p<q:=by
 refine Int.not_le.1 λhle=>?_
 have:=cY hle;grind
def sg(s:Bool):Rat:=if s then -1 else 1
def dv(s:Bool)(m:Nat)(i:Int):Rat:=sg s*((m:Rat)*(2:Rat)^i)
theorem yH(s:Bool)(i:Int):dv s 0 i=0:=by unfold dv;simp
def Is(w:Nat)(x:Rat):Prop:=w<2^64/\∃s m i,double.read w=.number s m i/\dv s m i=x
theorem aIq(neg:Bool)(n drop:Nat):
  2*(Toward.even.cut neg n drop*2^drop)<=2*n+2^drop/\2*n<=2*(Toward.even.cut neg n drop*2^drop)+2^drop/\
   (2^drop ∣ n->Toward.even.cut neg n drop*2^drop=n)/\Toward.even.cut neg n drop<=n/2^drop+1:=by
 by_cases hd:drop<=n.log2+2
 ·have hg:1 <<< min drop (n.log2+2)=2^drop:=by rw[Nat.min_eq_left hd,Nat.shiftLeft_eq,Nat.one_mul]
  have hc:Toward.even.cut neg n drop=n/2^drop+(decide (2^drop<2*(n%2^drop))||(2^drop==2*(n%2^drop)&&n/2^drop%2==1)).toNat:=by unfold Toward.cut;simp only[hg]
  rw[hc];have hdm:=Nat.div_add_mod n (2^drop);have hlt:=Nat.mod_lt n (Nat.two_pow_pos drop);generalize hG:2^drop=G at *
  generalize hq:n/G=q at *
  generalize hr:n%G=r at *
  have hG0:0<G:=by omega
  have hmul:(q+1)*G=q*G+G:=by rw[Nat.add_mul,Nat.one_mul]
  have hcm:G*q=q*G:=Nat.mul_comm ..;cases hb:(decide (G<2*r)||(G==2*r&&q%2==1)) with
  |true=>
   simp only[Bool.toNat_true];have:G<=2*r:=by simp only[Bool.or_eq_true,decide_eq_true_eq,Bool.and_eq_true,beq_iff_eq]at hb;omega
   refine⟨by omega,by omega,λh=>?_,by omega⟩;have:r=0:=by rw[<-hr];exact Nat.mod_eq_zero_of_dvd h
   omega
  |false=>
   simp only[Bool.toNat_false,Nat.add_zero];have:2*r<=G:=by simp only[Bool.or_eq_false_iff,decide_eq_false_iff_not]at hb;omega
   refine⟨by omega,by omega,λh=>?_,by omega⟩;have:r=0:=by rw[<-hr];exact Nat.mod_eq_zero_of_dvd h
   omega
 ·have hlt:n<2^(n.log2+1):=Nat.lt_log2_self;have e:2^(n.log2+2)=2*2^(n.log2+1):=by rw[Nat.pow_succ];omega
  have hle:2^(n.log2+2)<=2^drop:=Nat.pow_le_pow_right (by decide) (by omega);have hg:1 <<< min drop (n.log2+2)=2^(n.log2+2):=by rw[Nat.min_eq_right (by omega),Nat.shiftLeft_eq,Nat.one_mul]
  have hc:Toward.even.cut neg n drop=0:=by
   unfold Toward.cut;simp only[hg];have h1:n/2^(n.log2+2)=0:=Nat.div_eq_of_lt (by omega);have h2:n%2^(n.log2+2)=n:=Nat.mod_eq_of_lt (by omega);rw[h1,h2];have h3:¬2^(n.log2+2)<2*n:=by omega
   simp[h3]
  rw[hc,Nat.zero_mul];refine⟨by omega,by omega,λh=>?_,Nat.zero_le _⟩;rcases Nat.eq_zero_or_pos n with h0|h0;· omega
  ·have:=Nat.le_of_dvd h0 h;omega
theorem aAm{s:Bool}{r:Nat}(hr:r<2047*2^52):
  double.read (double.word s r)=if r<2^52 then .number s r (-1074) else .number s (2^52+r%2^52) (-1074+(r/2^52-1:Nat)):=by
 have e1:double.signWeight=2^63:=by decide
 have e2:double.binade=2^52:=by decide
 have e3:double.infRung=2047*2^52:=by decide
 have e4:double.leastPlace=-1074:=by decide
 have hlt:r<2^63:=by omega
 have h1:double.word s r%2^63=r:=by
  unfold Format.word;cases s;· simp only[Bool.false_eq_true,if_false];exact Nat.mod_eq_of_lt hlt
  ·simp only[if_true,e1];omega
 have h2:(double.word s r/2^63%2==1)=s:=by
  unfold Format.word;cases s;· simp only[Bool.false_eq_true,if_false];rw[Nat.div_eq_of_lt hlt];rfl
  ·simp only[if_true,e1];rw[show(2^63+r)/2^63=1 by omega];rfl
 unfold Format.read;simp only[e1,e2,e3,e4,h1,h2];split;· rfl
 ·first|rfl|rw[if_pos hr]
theorem bCo{s:Bool}{r:Nat}(hr:r<2^63):double.word s r<2^64:=by
 have e1:double.signWeight=2^63:=by decide
 unfold Format.word;cases s;· simp only[Bool.false_eq_true,if_false];omega
 ·simp only[if_true,e1];omega
theorem aZb{s:Bool}{t k:Nat}(hk:k<=2^53)(h0:t=0\/2^52<=k)(hr:t*2^52+k<2047*2^52):
  Is (double.word s (t*2^52+k)) (dv s k (-1074+t)):=by
 refine⟨bCo (by omega),?_⟩;by_cases hsm:t*2^52+k<2^52
 ·refine⟨s,t*2^52+k,-1074,?_,?_⟩
  ·rw[aAm hr,if_pos hsm]
  ·have:t=0:=by omega
   subst this;simp
 ·by_cases hk3:k=2^53
  ·refine⟨s,2^52,-1074+(t+1:Nat),?_,?_⟩
   ·rw[aAm hr,if_neg hsm];rw[show(t*2^52+k)%2^52=0 by omega,show(t*2^52+k)/2^52-1=t+1 by omega]
   ·unfold dv;rw[hk3,show(-1074+((t+1:Nat):Int))=(-1074+(t:Int))+1 by omega,bO (-1074+(t:Int)) 1];have:(2:Rat)^(1:Int)=2:=by simp
    rw[this];have h53:((2^53:Nat):Rat)=2*((2^52:Nat):Rat):=by exact_mod_cast (by decide:2^53=2*2^52)
    rw[h53];grind
  ·have hk52:2^52<=k:=by omega
   refine⟨s,k,-1074+t,?_,rfl⟩;rw[aAm hr,if_neg hsm];rw[show(t*2^52+k)%2^52=k-2^52 by omega,show(t*2^52+k)/2^52-1=t by omega,show 2^52+(k-2^52)=k by omega]
structure Rnd(x z:Rat):Prop where
 near:(z-x).abs<=x.abs*(2:Rat)^(-53:Int)\/(z-x).abs<=(2:Rat)^(-1075:Int)
 rep:∀(K:Int)(q:Int),K.natAbs<2^53->-1074<=q->x=K*(2:Rat)^q->z=x
theorem aA{x y:Rat}:x.abs<=y↔-y<=x/\x<=y:=by
 rcases(Rat.le_total:0<=x\/x<=0) with h|h;· rw[fZ h];grind
 ·rw[Rat.abs_of_nonpos h];grind
theorem aH(x:Rat):0<=x.abs:=by
 rcases(Rat.le_total:0<=x\/x<=0) with h|h;· rw[fZ h];exact h
 ·rw[Rat.abs_of_nonpos h];grind
theorem bD(x y:Rat):(x*y).abs=x.abs*y.abs:=by
 rcases(Rat.le_total:0<=x\/x<=0) with h|h<;>rcases(Rat.le_total:0<=y\/y<=0) with g|g
 ·rw[fZ h,fZ g,fZ (bU h g)]
 ·have:x*y<=0:=by have:=bU h (show 0<=-y by grind);grind
  rw[fZ h,Rat.abs_of_nonpos g,Rat.abs_of_nonpos this];grind
 ·have:x*y<=0:=by have:=bU (show 0<=-x by grind) g;grind
  rw[Rat.abs_of_nonpos h,fZ g,Rat.abs_of_nonpos this];grind
 ·have:0<=x*y:=by have:=bU (show 0<=-x by grind) (show 0<=-y by grind);grind
  rw[Rat.abs_of_nonpos h,Rat.abs_of_nonpos g,fZ this];grind
theorem aFo(s:Bool)(x:Rat):(sg s*x).abs=x.abs:=by
 cases s<;>simp[sg]
 rw[show(-1:Rat)*x=-x by grind];simp
theorem kF{a b:Nat}(h:a<=b):(a:Rat)<=(b:Rat):=by exact_mod_cast h
theorem oA{a b:Nat}(h:a<b):(a:Rat)<(b:Rat):=by exact_mod_cast h
theorem aZw{a b:Nat}(h:(a:Rat)<(b:Rat)):a<b:=by exact_mod_cast h
theorem aVk{s:Bool}{m:Nat}{i:Int}(hlt:(m:Rat)*(2:Rat)^i<(2:Rat)^(1023:Int)):
  ∃z,Is (double.nearest s m i) z/\Rnd (dv s m i) z:=by
 by_cases hm:m=0
 ·subst hm;refine⟨0,⟨?_,s,0,-1074,?_,?_⟩,⟨.inl ?_,λK q _ _ _=>?_⟩⟩
  ·unfold Format.nearest;rw[if_pos rfl];exact bCo (by decide)
  ·unfold Format.nearest;rw[if_pos rfl,aAm (by decide),if_pos (by decide)]
  ·exact yH s _
  ·simp[dv];rw[aA];grind
  ·simp[dv]
 ·have hL1:2^m.log2<=m:=Nat.log2_self_le hm;have hL2:m<2^(m.log2+1):=Nat.lt_log2_self;have e1:double.leastPlace=-1074:=by decide
  have e2:double.binade=2^52:=by decide
  have e3:double.infRung=2047*2^52:=by decide
  have e4:(double.fractionBits:Int)=52:=by decide
  generalize hLd:m.log2=L at *
  have hp:(2:Rat)^((L:Int)+i)<=(m:Rat)*(2:Rat)^i:=by rw[bO,cN];exact cG (kF hL1) (bN (bG i))
  have hLi:(L:Int)+i<1023:=xL (by grind);generalize hlast:max (i+(L:Int)-52) (-1074)=last;have hl1:i+L-52<=last:=by omega
  have hl2:-1074<=last:=by omega
  have hl3:last<=970:=by omega
  have hl4:last=-1074\/last=i+L-52:=by omega
  generalize hkept:Toward.even.cut s (m <<< (i-last).toNat) (last-i).toNat=kept;obtain⟨c1,c2,c3,c4⟩:=aIq s (m <<< (i-last).toNat) (last-i).toNat;rw[hkept]at c1 c2 c3 c4;have key:kept<=2^53/\(last=-1074\/2^52<=kept)/\
    ((kept:Rat)*(2:Rat)^last-m*(2:Rat)^i).abs<=(2:Rat)^(last-1)/\
    (∀(K:Nat)(q:Int),K<2^53->-1074<=q->(m:Rat)*(2:Rat)^i=K*(2:Rat)^q->(kept:Rat)*(2:Rat)^last=m*(2:Rat)^i):=by
   by_cases hil:last<=i
   ·obtain⟨a,ha⟩:=Int.eq_ofNat_of_zero_le (show 0<=i-last by omega);have h1:(i-last).toNat=a:=by omega
    have h2:(last-i).toNat=0:=by omega
    rw[h1,h2]at c3;have hk:kept=m*2^a:=by have:=c3 (by simp);rw[Nat.shiftLeft_eq]at this;simpa using this
    have hex:(kept:Rat)*(2:Rat)^last=m*(2:Rat)^i:=by rw[hk,show i=(a:Int)+last by omega,bO,cN];push_cast;grind
    have hlt53:m*2^a<2^(L+1+a):=by rw[Nat.pow_add];exact Nat.mul_lt_mul_of_pos_right hL2 (Nat.two_pow_pos a)
    have hle53:2^(L+1+a)<=2^53:=Nat.pow_le_pow_right (by decide) (by omega);refine⟨by omega,?_,?_,λK q _ _ _=>hex⟩
    ·rcases hl4 with h|h
     ·exact .inl h
     ·refine .inr ?_;rw[hk];have:2^52=2^L*2^a:=by rw[<-Nat.pow_add];congr 1;omega
      rw[this];exact Nat.mul_le_mul_right _ hL1
    ·rw[hex];have:=bG (last-1);simp;grind
   ·obtain⟨b,hb⟩:=Int.eq_ofNat_of_zero_le (show 0<=last-i by omega);have h1:(i-last).toNat=0:=by omega
    have h2:(last-i).toNat=b:=by omega
    rw[h1,h2]at c1 c2 c3 c4;rw[Nat.shiftLeft_zero]at c1 c2 c3 c4;have hlastq:(2:Rat)^last=((2^b:Nat):Rat)*(2:Rat)^i:=by rw[show last=(b:Int)+i by omega,bO,cN]
    have hkv:(kept:Rat)*(2:Rat)^last=((kept*2^b:Nat):Rat)*(2:Rat)^i:=by rw[hlastq];push_cast;grind
    refine⟨?_,?_,?_,?_⟩
    ·have:m/2^b<2^53:=by rw[Nat.div_lt_iff_lt_mul (Nat.two_pow_pos b),<-Nat.pow_add];exact Nat.lt_of_lt_of_le hL2 (Nat.pow_le_pow_right (by decide) (by omega))
     omega
    ·rcases hl4 with h|h
     ·exact .inl h
     ·refine .inr ?_;have hLb:L=52+b:=by omega
      rw[hLb,Nat.pow_add]at hL1;have h5:2*(2^52*2^b)<=2*(kept*2^b)+2^b:=Nat.le_trans (Nat.mul_le_mul_left 2 hL1) c2;have hpos:=Nat.two_pow_pos b;refine Nat.not_lt.1 λhlt=>?_
      have h6:(kept+1)*2^b<=2^52*2^b:=Nat.mul_le_mul_right _ hlt;rw[Nat.add_mul,Nat.one_mul]at h6;omega
    ·rw[hkv,aA];have e5:(2:Rat)^(last-1)*2=((2^b:Nat):Rat)*(2:Rat)^i:=by
      rw[<-hlastq];have h21:(2:Rat)^(1:Int)=2:=by simp
      rw[show last=(last-1)+1 by omega,bO (last-1) 1,h21];simp
     have g1:=cG (kF c1) (bN (bG i));have g2:=cG (kF c2) (bN (bG i));push_cast at g1 g2 e5⊢;grind
    ·intro K q hK hq he;have hlq:last<=q:=by
      rcases hl4 with h|h;· omega
      ·have:(2:Rat)^((L:Int)+i)<(2:Rat)^(53+q):=by rw[bO 53 q];have:(2:Rat)^(53:Int)=((2^53:Nat):Rat):=cN 53;rw[this];have h9:(K:Rat)*(2:Rat)^q<((2^53:Nat):Rat)*(2:Rat)^q:=Rat.mul_lt_mul_of_pos_right (oA (by omega)) (bG q);grind
       have:=xL this;omega
     obtain⟨c,hc⟩:=Int.eq_ofNat_of_zero_le (show 0<=q-last by omega);have hmK:m=K*2^(b+c):=by
      have h10:(m:Rat)*(2:Rat)^i=((K*2^(b+c):Nat):Rat)*(2:Rat)^i:=by rw[he,show q=((b+c:Nat):Int)+i by omega,bO,cN];push_cast;grind
      have h11:=bG i;have h12:(m:Rat)=((K*2^(b+c):Nat):Rat):=by
       have h13:((m:Rat)-((K*2^(b+c):Nat):Rat))*(2:Rat)^i=0:=by grind
       rcases Rat.mul_eq_zero.1 h13 with h|h<;>grind
      exact_mod_cast h12
     have:=c3 ⟨K*2^c,by rw[hmK,Nat.pow_add];grind⟩;rw[hkv,this]
  obtain⟨k1,k2,k3,k4⟩:=key;have hn:double.nearest s m i=double.word s ((last - -1074).toNat*2^52+kept):=by unfold Format.nearest;simp only[if_neg hm,e1,e2,e3,e4,hLd,hlast,hkept];rw[Nat.min_eq_left (by omega)]
  refine⟨dv s kept last,?_,?_⟩;· rw[hn];have:=aZb (s:=s) (t:=(last - -1074).toNat) (k:=kept) k1 (by omega) (by omega);rwa[show(-1074+((last - -1074).toNat:Int))=last by omega]at this
  ·constructor
   ·have hd:dv s kept last-dv s m i=sg s*((kept:Rat)*(2:Rat)^last-m*(2:Rat)^i):=by unfold dv;grind
    rw[hd,aFo];have hx:(dv s m i).abs=(m:Rat)*(2:Rat)^i:=by unfold dv;rw[aFo,fZ];have:=bG ((L:Int)+i);grind
    rw[hx];rcases hl4 with h|h;· right;rw[h]at k3⊢;exact k3
    ·left;refine cR k3 ?_;rw[h,show i+(L:Int)-52-1=((L:Int)+i)+(-53) by omega,bO];exact cG hp (bN (bG _))
   ·intro K q hK hq he;have h14:(m:Rat)*(2:Rat)^i=(K.natAbs:Rat)*(2:Rat)^q:=by
     have h15:(dv s m i).abs=((K:Rat)*(2:Rat)^q).abs:=by rw[he]
     have hx:(dv s m i).abs=(m:Rat)*(2:Rat)^i:=by unfold dv;rw[aFo,fZ];have:=bG ((L:Int)+i);grind
     rw[hx]at h15;rw[h15,bD,fZ (bN (bG q))];congr 1;rcases Int.natAbs_eq K with h|h;· rw[h];simp only[Int.natAbs_natCast];exact fZ (by exact_mod_cast Nat.zero_le _)
     ·rw[h];simp only[Int.natAbs_neg,Int.natAbs_natCast];rw[Rat.abs_of_nonpos]
      ·push_cast;grind
      ·have:(0:Rat)<=((K.natAbs:Nat):Rat):=by exact_mod_cast Nat.zero_le _
       push_cast;grind
    have:=k4 K.natAbs q hK hq h14;unfold dv;rw[this]
theorem bA8(s:Bool):sg (!s)=-sg s:=by cases s<;>simp[sg]
theorem bJb(s t:Bool):sg (s ^^ t)=sg s*sg t:=by cases s<;>cases t<;>simp[sg]<;>grind
theorem vQ(s:Bool)(m:Nat)(i:Int):(dv s m i).abs=(m:Rat)*(2:Rat)^i:=by unfold dv;rw[aFo,fZ];exact bU (by exact_mod_cast Nat.zero_le _) (bN (bG i))
theorem xN(s:Bool)(m up:Nat):((signed s m up:Int):Rat)=sg s*((m:Rat)*(2:Rat)^(up:Int)):=by
 unfold signed sg;rw[cN,Nat.shiftLeft_eq];cases s;· simp only[Bool.false_eq_true,if_false];push_cast;grind
 ·simp only[if_true];push_cast;grind
theorem aMc(n:Int)(b:Bool)(i:Int)(hb:n≠0->b=decide (n<0)):dv b n.natAbs i=(n:Rat)*(2:Rat)^i:=by
 unfold dv sg;by_cases h:n=0;· subst h;simp
 ·rw[hb h];rcases(show n<0\/0<=n by omega) with h1|h1
  ·simp only[h1,decide_true,if_true];have:((n.natAbs:Nat):Rat)=-(n:Rat):=by
    have:((n.natAbs:Nat):Int)=-n:=by omega
    exact_mod_cast congrArg (λz:Int=>(z:Rat)) this
   rw[this];grind
  ·have h2:¬n<0:=by omega
   simp only[h2,decide_false,Bool.false_eq_true,if_false];have:((n.natAbs:Nat):Rat)=(n:Rat):=by
    have:((n.natAbs:Nat):Int)=n:=by omega
    exact_mod_cast congrArg (λz:Int=>(z:Rat)) this
   rw[this];grind
theorem sJ{s:Bool}{m:Nat}{i:Int}(h:(dv s m i).abs<(2:Rat)^(1023:Int)):
  ∃z,Is (double.write (.number s m i)) z/\Rnd (dv s m i) z:=aVk (by rw[vQ]at h;exact h)
theorem bBw{s t:Bool}{m n:Nat}{i j:Int}:∃b k e,Datum.sum (.number s m i) (.number t n j)=some (.number b k e)/\dv b k e=dv s m i+dv t n j:=by
 refine⟨_,_,_,rfl,?_⟩;have hs:∀(s:Bool)(m:Nat)(i b:Int),b<=i->((signed s m (i-b).toNat:Int):Rat)*(2:Rat)^b=dv s m i:=λs m i b hb=>by rw[xN,show(((i-b).toNat:Nat):Int)=i-b by omega];unfold dv;rw[show(2:Rat)^i=(2:Rat)^(i-b)*(2:Rat)^b by rw[<-bO];congr 1;omega];grind
 rw[aMc];· push_cast;rw[<-hs s m i (min i j) (by omega),<-hs t n j (min i j) (by omega)];grind
 ·intro h0;rw[if_neg h0]
theorem mJ{a b:Nat}{x y:Rat}(ha:Is a x)(hb:Is b y)(h:(x+y).abs<(2:Rat)^(1023:Int)):
  ∃r z,fbF .add a b=some r/\Is r z/\Rnd (x+y) z:=by
 obtain⟨_,s,m,i,h1,rfl⟩:=ha;obtain⟨_,t,n,j,h2,rfl⟩:=hb;obtain⟨c,k,e,h3,h4⟩:=@bBw s t m n i j;rw[<-h4]at h⊢;obtain⟨z,h5,h6⟩:=sJ h;refine⟨_,z,?_,h5,h6⟩;rw[tV];show double.add a b=_;unfold Format.add;rw[h1,h2,h3];rfl
theorem qD{a b:Nat}{x y:Rat}(ha:Is a x)(hb:Is b y)(h:(x-y).abs<(2:Rat)^(1023:Int)):
  ∃r z,fbF .sub a b=some r/\Is r z/\Rnd (x-y) z:=by
 obtain⟨_,s,m,i,h1,rfl⟩:=ha;obtain⟨_,t,n,j,h2,rfl⟩:=hb;obtain⟨c,k,e,h3,h4⟩:=@bBw s (!t) m n i j;have h7:dv (!t) n j=- dv t n j:=by unfold dv;rw[bA8];grind
 rw[show dv s m i-dv t n j=dv s m i+dv (!t) n j by grind,<-h4]at h⊢;obtain⟨z,h5,h6⟩:=sJ h;refine⟨_,z,?_,h5,h6⟩;rw[tV];show double.sub a b=_;unfold Format.sub;rw[h1,h2];show(Datum.sum (.number s m i) (.number (!t) n j)).map double.write=_;rw[h3];rfl
theorem kH{a b:Nat}{x y:Rat}(ha:Is a x)(hb:Is b y)(h:(x*y).abs<(2:Rat)^(1023:Int)):
  ∃r z,fbF .mul a b=some r/\Is r z/\Rnd (x*y) z:=by
 obtain⟨_,s,m,i,h1,rfl⟩:=ha;obtain⟨_,t,n,j,h2,rfl⟩:=hb;have h4:dv (s ^^ t) (m*n) (i+j)=dv s m i*dv t n j:=by unfold dv;rw[bJb,bO];push_cast;grind
 rw[<-h4]at h⊢;obtain⟨z,h5,h6⟩:=sJ h;refine⟨_,z,?_,h5,h6⟩;rw[tV];show double.mul a b=_;unfold Format.mul;rw[h1,h2];rfl
theorem wJ{a:Nat}{x:Rat}(ha:Is a x):Is (Op.negFloat .f64 a) (-x):=by
 obtain⟨hw,s,m,i,h1,rfl⟩:=ha;refine⟨Nat.xor_lt_two_pow hw (by decide),!s,m,i,?_,by unfold dv;rw[bA8];grind⟩;have e1:double.signWeight=2^63:=by decide
 have hx:Op.negFloat .f64 a=a ^^^ 2^63:=rfl;have hm:(a ^^^ 2^63)%2^63=a%2^63:=by rw[Nat.xor_mod_two_pow];simp
 have ht:((a ^^^ 2^63)/2^63%2==1)=!(a/2^63%2==1):=by
  have h0:∀x:Nat,(x/2^63%2==1)=x.testBit 63:=λx=>by rw[Nat.testBit_eq_decide_div_mod_eq];rfl
  rw[h0,h0,Nat.testBit_xor,Nat.testBit_two_pow_self];cases a.testBit 63<;>rfl
 unfold Format.read at *
 rw[hx];simp only[e1]at h1⊢;rw[hm,ht];split at h1
 ·rename_i hc;simp only[hc,if_true];injection h1 with g1 g2 g3
  rw[g1,g2,g3]
 ·split at h1
  ·rename_i hc1 hc;simp only[hc,if_true,hc1,if_false];injection h1 with g1 g2 g3
   rw[g1,g2,g3]
  ·split at h1<;>cases h1
theorem aAg{a b:Nat}{x y:Rat}(ha:Is a x)(hb:Is b y):
  aBq a b=some (if x<y then .lt else if x=y then .eq else .gt):=by
 rw[wK];obtain⟨_,s,m,i,h1,rfl⟩:=ha;obtain⟨_,t,n,j,h2,rfl⟩:=hb;unfold Format.order;rw[h1,h2];show some (compare (signed s m (i-min i j).toNat) (signed t n (j-min i j).toNat))=_;have hs:∀(s:Bool)(m:Nat)(i b:Int),b<=i->((signed s m (i-b).toNat:Int):Rat)*(2:Rat)^b=dv s m i:=λs m i b hb=>by rw[xN,show(((i-b).toNat:Nat):Int)=i-b by omega];unfold dv;rw[show(2:Rat)^i=(2:Rat)^(i-b)*(2:Rat)^b by rw[<-bO];congr 1;omega];grind
 have e1:=hs s m i (min i j) (by omega);have e2:=hs t n j (min i j) (by omega);generalize signed s m (i-min i j).toNat=p at *
 generalize signed t n (j-min i j).toNat=q at *
 rw[<-e1,<-e2];have hp:=bG (min i j);generalize (2:Rat)^(min i j)=u at *
 congr 1;rcases Int.lt_trichotomy p q with h|h|h
 ·have:((p:Rat))<(q:Rat):=by exact_mod_cast h
  have:=Rat.mul_lt_mul_of_pos_right this hp;rw[if_pos this];exact Int.compare_eq_lt.2 h
 ·subst h;rw[if_neg (by grind),if_pos rfl];exact Int.compare_eq_eq.2 rfl
 ·have:((q:Rat))<(p:Rat):=by exact_mod_cast h
  have:=Rat.mul_lt_mul_of_pos_right this hp;rw[if_neg (by grind),if_neg (by grind)];exact Int.compare_eq_gt.2 h
theorem pL{n:Int}(h:n.natAbs<2^53):Is (floatOfInt .f64 n) n:=by
 have h1:=aMc n (decide (n<0)) 0 λ_=>rfl
 have h2:(n:Rat)*(2:Rat)^(0:Int)=n:=by simp
 rw[h2]at h1;have h3:(dv (decide (n<0)) n.natAbs 0).abs<(2:Rat)^(1023:Int):=by rw[vQ];have h4:((n.natAbs:Nat):Rat)<((2^53:Nat):Rat):=oA h;have h5:(2:Rat)^(53:Int)<=(2:Rat)^(1023:Int):=cY (by decide);have h6:(2:Rat)^(53:Int)=((2^53:Nat):Rat):=cN 53;grind
 obtain⟨z,h5,h6⟩:=sJ h3;have:z=n:=by rw[<-h1];exact h6.rep n 0 h (by decide) (by rw[h1,h2])
 rw[this]at h5;exact h5
def tab:List (Nat×Sum)->F9->Option Sum
 |[],_=>none
 |(n,s)::r,f=>bif N9 n f then some s else tab r f
def cxf(fi:Fi)(P:Q9)(l es:List (Nat×Sum)):Cx:={ P:=P,sums:=tab l,exts:=tab es,meths:=λ_ _=>none,wild:=λ_=>false,fi:=fi,nn:=false,nan1:=λ_=>false,defs:=λ_=>false,hs:=λ_ _ _=>none }
def cx(P:Q9)(l:List (Nat×Sum)):Cx:=cxf aG P l []
def Has(P : Q9)(f : F9) : Prop := ∃fn c, P.funcs[f]? = some fn /\ (fn.name == "runtime.NumGoroutine") = false /\ fn.body = some c
inductive mE(P:Q9):List (Nat×Sum)->Prop
 |nil:mE P []
 |cons {f:Nat} {g:Sum} {r:List (Nat×Sum)} (h:cH P f g) (hf:Has P f) (hr:mE P r):mE P ((f,g)::r)
theorem aCq{P:Q9}:∀{l:List (Nat×Sum)},mE P l->∀f g,tab l f=some g->cH P f g/\Has P f
 |_,.nil,f,g,h=>by simp[tab]at h
 |_,.cons (f:=n) h hf hr,f,g,h'=>by
  unfold tab at h';cases hb:N9 n f with
  |true=>rw[hb]at h';cases h';rw[gO hb]at h hf;exact⟨h,hf⟩
  |false=>rw[hb]at h';exact aCq hr f g h'
theorem aGi{P:Q9}{l:List (Nat×Sum)}(h:mE P l):(cx P l).Ok where
 fair:=aI
 sums:=λf g hg=>aCq h f g hg
 exts:=λf g hg=>by cases hg
 meths:=λt s f hf=>by cases hf
 nan1:=λf hf=>by cases hf
 hs:=λf args H v h=>by cases h
theorem dL{P:Q9}{l:List (Nat×Sum)}(hm:P.follows .mixedOrders=true)(h:mE P l){n:Nat}{f:F9}{g:Sum}(hg:∀(R:Type)(args:List Value)(k:KVO R)(r:R),g R args k=some r->kZ 0 args=true/\fC (cx P l) n f args k=some r):cH P f g:=by intro R args k r h1;obtain⟨h2,h3⟩:=hg R args k r h1;exact⟨h2,cD (aGi h) hm h3 h2⟩
abbrev gU:=∀R:Type,Nat->Nat->Nat->Nat->(Nat->Nat->Option R)->Option R
abbrev KCC:=∀R:Type,Nat->Nat->(Nat->Nat->Option R)->Option R
abbrev KCB:=∀R:Type,Nat->Nat->(Bool->Option R)->Option R
abbrev KFB:=∀R:Type,Nat->(Bool->Option R)->Option R
abbrev KFF:=∀R:Type,Nat->(Nat->Option R)->Option R
abbrev aA1:=∀R:Type,Nat->Nat->(Bool->Option R)->Option R
abbrev aNo:=∀R:Type,Nat->Nat->Nat->(Bool->Option R)->Option R
def jH(g:gU):Sum:=λR args k=>match args with
 |[.complex .f64 a b,.complex .f64 c d]=>g R a b c d λx y=>k (.complex .f64 x y)
 |_=>none
def sCC(g:KCC):Sum:=λR args k=>match args with
 |[.complex .f64 a b]=>g R a b λx y=>k (.complex .f64 x y)
 |_=>none
def sCB(g:KCB):Sum:=λR args k=>match args with
 |[.complex .f64 a b]=>g R a b λt=>aW t λt=>k (.bool t)
 |_=>none
def sFF(g:KFF):Sum:=λR args k=>match args with
 |[.float .f64 a]=>g R a λx=>k (.float .f64 x)
 |_=>none
def sFB(g:KFB):Sum:=λR args k=>match args with
 |[.float .f64 a]=>g R a λt=>aW t λt=>k (.bool t)
 |_=>none
def bNv(g:aA1):Sum:=λR args k=>match args with
 |[.float .f64 a,.float .f64 b]=>g R a b λt=>aW t λt=>k (.bool t)
 |_=>none
def aP3(g:aNo):Sum:=λR args k=>match args with
 |[.complex .f64 a b,.float .f64 c]=>g R a b c λt=>aW t λt=>k (.bool t)
 |_=>none
section
variable{P:Q9}{l:List (Nat×Sum)}{n:Nat}{f:F9}
theorem aJt{g:gU}(hm:P.follows .mixedOrders=true)(h:mE P l)(hg:∀(R:Type) a b c d (k:KVO R),fC (cx P l) n f [.complex .f64 a b,.complex .f64 c d] k=g R a b c d λx y=>k (.complex .f64 x y)):cH P f (jH g):=
 dL hm h (n:=n) λR args k r hr=>by
  unfold jH at hr;split at hr;· exact⟨rfl,by rw[hg];exact hr⟩
  ·cases hr
theorem aE9{g:KCC}(hm:P.follows .mixedOrders=true)(h:mE P l)(hg:∀(R:Type) a b (k:KVO R),fC (cx P l) n f [.complex .f64 a b] k=g R a b λx y=>k (.complex .f64 x y)):cH P f (sCC g):=
 dL hm h (n:=n) λR args k r hr=>by
  unfold sCC at hr;split at hr;· exact⟨rfl,by rw[hg];exact hr⟩
  ·cases hr
theorem aZ3{g:KCB}(hm:P.follows .mixedOrders=true)(h:mE P l)(hg:∀(R:Type) a b (k:KVO R),fC (cx P l) n f [.complex .f64 a b] k=g R a b λt=>k (.bool t)):cH P f (sCB g):=
 dL hm h (n:=n) λR args k r hr=>by
  unfold sCB at hr;split at hr;· exact⟨rfl,by rw[hg];simpa only[aJ] using hr⟩
  ·cases hr
theorem aMl{g:KFF}(hm:P.follows .mixedOrders=true)(h:mE P l)(hg:∀(R:Type) a (k:KVO R),fC (cx P l) n f [.float .f64 a] k=g R a λx=>k (.float .f64 x)):cH P f (sFF g):=
 dL hm h (n:=n) λR args k r hr=>by
  unfold sFF at hr;split at hr;· exact⟨rfl,by rw[hg];exact hr⟩
  ·cases hr
theorem aS1{g:KFB}(hm:P.follows .mixedOrders=true)(h:mE P l)(hg:∀(R:Type) a (k:KVO R),fC (cx P l) n f [.float .f64 a] k=g R a λt=>k (.bool t)):cH P f (sFB g):=
 dL hm h (n:=n) λR args k r hr=>by
  unfold sFB at hr;split at hr;· exact⟨rfl,by rw[hg];simpa only[aJ] using hr⟩
  ·cases hr
theorem bNd{g:aA1}(hm:P.follows .mixedOrders=true)(h:mE P l)(hg:∀(R:Type) a b (k:KVO R),fC (cx P l) n f [.float .f64 a,.float .f64 b] k=g R a b λt=>k (.bool t)):cH P f (bNv g):=
 dL hm h (n:=n) λR args k r hr=>by
  unfold bNv at hr;split at hr;· exact⟨rfl,by rw[hg];simpa only[aJ] using hr⟩
  ·cases hr
theorem bNc{g:aNo}(hm:P.follows .mixedOrders=true)(h:mE P l)(hg:∀(R:Type) a b c (k:KVO R),fC (cx P l) n f [.complex .f64 a b,.float .f64 c] k=g R a b c λt=>k (.bool t)):cH P f (aP3 g):=
 dL hm h (n:=n) λR args k r hr=>by
  unfold aP3 at hr;split at hr;· exact⟨rfl,by rw[hg];simpa only[aJ] using hr⟩
  ·cases hr
end
def aMp(s:aC3):Map:=λk=>bif N9 k 0 then some s else none
abbrev qR:=∀R:Type,Nat->Nat->H9->Env->AH->(Ex->Env->AH->Option R)->Option R
def bE{R:Type}(C:Cx)(n:Nat)(L:qR)(lo sz:Nat):H9->Env->AH->(Ex->Env->AH->Option R)->Option R
 |.skip,e,H,k=>k .normal e H
 |.region _ ops draw,e,H,k=>
  bif draw then bif aLu ops then aB8 C (aN6 C n) lo sz ops (aAe ops) H.next 0 [] [] ops.toList e H (λe' H'=>k .normal e' H') else none
  else aIs C (aN6 C n) lo sz ops ops.toList e H λe' H'=>k .normal e' H'
 |.seq a b,e,H,k=>bE C n L lo sz a e H λex e' H'=>
   match ex with
   |.normal=>bE C n L lo sz b e' H' k
   |ex=>k ex e' H'
 |.cond x a b,e,H,k=>(opd e x).bind λv=>
   match v with
   |.bool t=>bif t then bE C n L lo sz a e H k else bE C n L lo sz b e H k
   |_=>none
 |.block id a,e,H,k=>bE C n L lo sz a e H λex e' H'=>
   match ex with
   |.exit j=>bif N9 j id then k .normal e' H' else k (.exit j) e' H'
   |ex=>k ex e' H'
 |.loop a,e,H,k=>L R lo sz a e H k
 |.exit id,e,H,k=>k (.exit id) e H
 |.ret,e,H,k=>k .ret e H
 |_,_,_,_=>none
def fP:H9->List H9
 |.seq a b=>fP a++fP b
 |.cond _ a b=>fP a++fP b
 |.block _ a=>fP a
 |.loop a=>[a]
 |_=>[]
def LOk(P:Q9)(L:qR)(a:H9):Prop:=
 ∀(R:Type)(lo sz:Nat)(e:Env)(H:AH)(k:Ex->Env->AH->Option R)(r:R),L R lo sz a e H k=some r->
  ∃ex e' H',k ex e' H'=some r/\iE P lo sz e H ex e' H' (λQ act w=>H9.wp P (.loop a) Q act w)
theorem aMz{R:Type}{C:Cx}(hC:C.Ok)(hmix:C.P.follows .mixedOrders=true){n:Nat}{lo sz:Nat}{id:Nat}{ops:Array Oper}{draw:Bool}{e:Env}{H:AH}{k:Ex->Env->AH->Option R}{r:R}(h:lV C (n+1) lo sz (.region id ops draw) e H k=some r):∃ex e' H',k ex e' H'=some r/\iE C.P lo sz e H ex e' H' (λQ a w=>(H9.region id ops draw).wp C.P Q a w):=
 (pX hC hmix (n+1)).1 _ _ _ _ _ _ _ h
theorem pE{R:Type}{C:Cx}(hC:C.Ok)(hmix:C.P.follows .mixedOrders=true){n:Nat}{L:qR}{lo sz:Nat}:∀(c:H9)(_:∀a∈fP c,LOk C.P L a)(e:Env)(H:AH)(k:Ex->Env->AH->Option R)(r:R),bE C n L lo sz c e H k=some r->
  ∃ex e' H',k ex e' H'=some r/\iE C.P lo sz e H ex e' H' (λQ a w=>c.wp C.P Q a w):=by
 intro c;induction c with
 |skip=>exact λ_ e H k r h=>⟨.normal,e,H,h,λ{ρ w a} hi hlo he hs Q hQ=>wp_skip (hQ ρ a w (Next.refl hi) he hs rfl)⟩
 |region id ops draw=>exact λ_ e H k r h=>aMz hC hmix (n:=n) (id:=id) (by simp only[lV];exact h)
 |seq x y ihx ihy=>
  intro hL e H k r h;simp only[bE]at h;obtain⟨ex,e1,H1,h1,h2⟩:=ihx (λa ha=>hL a (by simp[fP,ha])) _ _ _ _ h;cases ex with
  |normal=>
   simp only at h1;obtain⟨ex',e',H',g1,g2⟩:=ihy (λa ha=>hL a (by simp[fP,ha])) _ _ _ _ h1;refine⟨ex',e',H',g1,λ{ρ w a} hi hlo he hs Q hQ=>wp_seq ?_⟩;refine h2 hi hlo he hs _ λρ1 a1 w1 m1 m2 m3 m4=>?_
   exact g2 m1.inv (Nat.le_trans hlo m1.nx) m2 m3 Q λρ' a' w' q1 q2 q3 q4=>hQ ρ' a' w' (m1.trans q1) q2 q3 (q4.trans m4)
  |exit id=>exact⟨.exit id,e1,H1,h1,λ{ρ w a} hi hlo he hs Q hQ=>wp_seq (h2 hi hlo he hs _ λρ1 a1 w1 m1 m2 m3 m4=>hQ ρ1 a1 w1 m1 m2 m3 m4)⟩
  |ret=>exact⟨.ret,e1,H1,h1,λ{ρ w a} hi hlo he hs Q hQ=>wp_seq (h2 hi hlo he hs _ λρ1 a1 w1 m1 m2 m3 m4=>hQ ρ1 a1 w1 m1 m2 m3 m4)⟩
 |cond x y z ihy ihz=>
  intro hL e H k r h;simp only[bE]at h;obtain⟨v,h1,h⟩:=aB h;split at h
  ·rename_i t;have hc:∀{ρ:Map}{a:Act},fW ρ e a.tmps->a.eval x=.bool t:=λ{ρ a} he=>by
    have:=cZ he h1;generalize a.eval x=v' at *
    cases this;rfl
   cases t with
   |true=>obtain⟨ex,e',H',g1,g2⟩:=ihy (λa ha=>hL a (by simp[fP,ha])) _ _ _ _ (by simpa using h);exact⟨ex,e',H',g1,λ{ρ w a} hi hlo he hs Q hQ=>wp_cond_true (hc he) (g2 hi hlo he hs Q hQ)⟩
   |false=>obtain⟨ex,e',H',g1,g2⟩:=ihz (λa ha=>hL a (by simp[fP,ha])) _ _ _ _ (by simpa using h);exact⟨ex,e',H',g1,λ{ρ w a} hi hlo he hs Q hQ=>wp_cond_false (hc he) (g2 hi hlo he hs Q hQ)⟩
  ·cases h
 |block id x ihx=>
  intro hL e H k r h;simp only[bE]at h;obtain⟨ex,e1,H1,h1,h2⟩:=ihx (λa ha=>hL a (by simp[fP,ha])) _ _ _ _ h;cases ex with
  |normal=>exact⟨.normal,e1,H1,h1,λ{ρ w a} hi hlo he hs Q hQ=>wp_block (h2 hi hlo he hs _ λρ1 a1 w1 m1 m2 m3 m4=>hQ ρ1 a1 w1 m1 m2 m3 m4)⟩
  |ret=>exact⟨.ret,e1,H1,h1,λ{ρ w a} hi hlo he hs Q hQ=>wp_block (h2 hi hlo he hs _ λρ1 a1 w1 m1 m2 m3 m4=>hQ ρ1 a1 w1 m1 m2 m3 m4)⟩
  |exit j=>
   simp only at h1;cases hj:N9 j id with
   |true=>rw[hj]at h1;have:=gO hj;subst this;refine⟨.normal,e1,H1,h1,λ{ρ w a} hi hlo he hs Q hQ=>wp_block (h2 hi hlo he hs _ λρ1 a1 w1 m1 m2 m3 m4=>?_)⟩;simp only[Ex.to,Exit.inBlock,if_true];exact hQ ρ1 a1 w1 m1 m2 m3 m4
   |false=>
    rw[hj]at h1;have hne:j≠id:=λe=>by subst e;simp at hj
    refine⟨.exit j,e1,H1,h1,λ{ρ w a} hi hlo he hs Q hQ=>wp_block (h2 hi hlo he hs _ λρ1 a1 w1 m1 m2 m3 m4=>?_)⟩;simp only[Ex.to,Exit.inBlock,if_neg hne];exact hQ ρ1 a1 w1 m1 m2 m3 m4
 |loop x _=>exact λhL e H k r h=>hL x (by simp[fP]) _ _ _ _ _ _ _ h
 |exit id=>exact λ_ e H k r h=>⟨.exit id,e,H,h,λ{ρ w a} hi hlo he hs Q hQ=>wp_exit (hQ ρ a w (Next.refl hi) he hs rfl)⟩
 |ret=>exact λ_ e H k r h=>⟨.ret,e,H,h,λ{ρ w a} hi hlo he hs Q hQ=>wp_ret (hQ ρ a w (Next.refl hi) he hs rfl)⟩
 |_=>exact λ_ e H k r h=>by simp[bE]at h
theorem iE.env{P:Q9}{lo sz:Nat}{e e1 e2 e':Env}{H H':AH}{ex:Ex}{W:(Exit->Act->World->Prop)->Act->World->Prop}(h:iE P lo sz e1 H ex e2 H' W)(h1:∀t v,rZ t e1=some v->rZ t e=some v)(h2:∀t v,rZ t e'=some v->rZ t e2=some v):iE P lo sz e H ex e' H' W:=
 λ{ρ w act} hi hlo he hs Q hQ=>h hi hlo (λt v hv=>he t v (h1 t v hv)) hs Q λρ' a' w' q1 q2 q3 q4=>hQ ρ' a' w' q1 (λt v hv=>q2 t v (h2 t v hv)) q3 q4
def noL:qR:=λ_ _ _ _ _ _ _=>none
def cHh:H9->H9 | .seq a _=>a|c=>c
def cGh:H9->H9 | .seq _ b=>b|c=>c
def jP{R:Type}(g:Env->AH->Option R)(K:Ex->Env->AH->Option R):Ex->Env->AH->Option R:=λex e H=>match ex with
 |.normal=>g e H
 |ex=>K ex e H
def fS{R:Type}(id:Nat)(K:Ex->Env->AH->Option R):Ex->Env->AH->Option R:=λex e H=>match ex with
 |.exit j=>bif N9 j id then K .normal e H else K (.exit j) e H
 |ex=>K ex e H
theorem cX{R:Type}(id:Nat)(g:Env->AH->Option R)(K:Ex->Env->AH->Option R)(e:Env)(H:AH):fS id (jP g K) (.exit id) e H=g e H:=by have h:N9 id id=true:=Nat.beq_refl id;show(bif N9 id id then g e H else K (.exit id) e H)=g e H;rw[h];rfl
theorem aD1{P:Q9}{f:F9}{fn:Func}{c:H9}{args:List Value}{H H':AH}{e':Env}{ex:Ex}{vs:List Value}(hf:P.funcs[f]?=some fn)(hb:fn.body=some c)(hl:args.length<=fn.ntmps)(h:iE P H.next fn.ntmps (gX 0 args) H ex e' H' (λQ a w=>c.wp P Q a w))(hex:ex=.normal\/ex=.ret)(hr:aCn P e' H' fn.results.toList=some vs)(hfl:flat (rH vs)=true):
  ∀ρ w args',Inv ρ H w->cF ρ args args'->Calls P f ⟨args'⟩ w λe w'=>e=.returned (rH vs)/\RowKit.Below w.heap.size w w':=by
 intro ρ w args' hi ha;have hlen:=ha.length;refine calls_of_wp hf hb ?_;refine h hi (Nat.le_refl _) (uV ha _) (by simp;omega) _ λρ' a' w' n1 n2 n3 n4=>?_
 obtain⟨v',r1,r2⟩:=oB hr n1.inv n2;have:=r2.flat_eq hfl;subst this;have post:a'.defers=[]/\∃v,(results fn a'.tmps).run P w'=.ok v w'/\Ending.returned v=.returned (rH vs)/\RowKit.Below w.heap.size w w':=
  ⟨n4,_,r1,rfl,n1.os,n1.tape,n1.output,n1.size,λb hb=>n1.keep b hb λk o s hk hm=>absurd (hi.wf k o hm) (by omega)⟩
 rcases hex with rfl|rfl;· exact post
 ·exact post
end Go.Vm
