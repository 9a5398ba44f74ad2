/- A part of the evaluator and of what is told of floats; no conditions. -/
import Derived.Laws.FloatArith
import Derived.Test.YtaogignikkjkjaaGreatVmA
set_option linter.unusedSimpArgs false
set_option linter.unusedVariables false
set_option linter.unusedSectionVars false
set_option maxRecDepth 1000000
namespace Go.Vm
open Ieee
def forceN {R:Type} (n:Nat) (k:Nat→R):R:=Nat.casesOn n (k 0) fun m=>k (Nat.succ m)
theorem forceN_eq {R:Type} (n:Nat) (k:Nat→R):forceN n k=k n:=by cases n<;>rfl
def expoW (w:Nat):Nat:=Nat.mod (Nat.div w 4503599627370496) 2048
def mantW (w:Nat):Nat:=bif Nat.beq (expoW w) 0 then Nat.mod w 4503599627370496 else Nat.add 4503599627370496 (Nat.mod w 4503599627370496)
def plcW (w:Nat):Nat:=Nat.sub (expoW w) 1
def sgnW (w:Nat):Bool:=Nat.beq (Nat.mod (Nat.div w 9223372036854775808) 2) 1
def finW (w:Nat):Bool:=Nat.blt (expoW w) 2047
theorem nb (a b:Nat):Nat.beq a b=decide (a=b):=by
 cases h:Nat.beq a b with
 |true=>have:=Nat.eq_of_beq_eq_true h;simp[this]
 |false=>
       have:a≠b:=fun e=>by subst e;simp at h
       simp[this]
theorem nl (a b:Nat):Nat.blt a b=decide (a<b):=by
 cases h:Nat.blt a b with
 |true=>
      have:a<b:=by simpa using h
      simp[this]
 |false=>
       have:¬ a<b:=fun e=>by rw[show Nat.blt a b=true by simpa using e]at h;cases h
       simp[this]
theorem nle (a b:Nat):Nat.ble a b=decide (a≤b):=by
 cases h:Nat.ble a b with
 |true=>
      have:a≤b:=by simpa using h
      simp[this]
 |false=>
       have:¬ a≤b:=fun e=>by rw[show Nat.ble a b=true by simpa using e]at h;cases h
       simp[this]
theorem read_fast {w:Nat} (h:finW w=true):double.read w=.number (sgnW w) (mantW w) ((plcW w:Int)-1074):=by
 have e1:double.signWeight=9223372036854775808:=by decide
 have e2:double.binade=4503599627370496:=by decide
 have e3:double.infRung=9218868437227405312:=by decide
 have e4:double.leastPlace=-1074:=by decide
 unfold finW at h
 rw[nl]at h
 have hE:expoW w<2047:=by simpa using h
 have hEe:expoW w=w/4503599627370496 % 2048:=rfl; have hs:sgnW w=(w/9223372036854775808 % 2 == 1):=by
  unfold sgnW
  rw[nb]
  show decide (w/9223372036854775808 % 2=1)=_; by_cases g:w/9223372036854775808 % 2=1<;>simp[g]
 unfold Format.read; simp only[e1,e2,e3,e4]
 rw[← hs]
 unfold mantW plcW
 rw[nb]
 by_cases h0:expoW w=0
 ·have:w % 9223372036854775808<4503599627370496:=by omega
  have e:w % 9223372036854775808=w % 4503599627370496:=by omega
  rw[if_pos this]
  simp only[h0,decide_true,cond_true]
  rw[e]
  rfl
 ·have h1:¬ (w % 9223372036854775808<4503599627370496):=by omega
  have h2:w % 9223372036854775808<9218868437227405312:=by omega
  rw[if_neg h1,if_pos h2]
  simp only[h0,decide_false,cond_false]
  have q1:w % 9223372036854775808 % 4503599627370496=w % 4503599627370496:=by omega
  have q2:w % 9223372036854775808/4503599627370496=expoW w:=by omega
  rw[q1,q2]
  have q3:(-1074:Int)+((expoW w-1:Nat):Int)=(((expoW w-1:Nat)):Int)-1074:=by omega
  rw[q3]
  rfl
def lgStep (k:Nat) (m acc:Nat) (next:Nat→Nat→Nat):Nat:=forceN (Nat.shiftRight m k) fun h=>bif Nat.beq h 0 then next m acc else next h (Nat.add acc k)
def lg7 (m acc:Nat):Nat:=lgStep 64 m acc fun m acc=>lgStep 32 m acc fun m acc=>lgStep 16 m acc fun m acc=>lgStep 8 m acc fun m acc=>lgStep 4 m acc fun m acc=>lgStep 2 m acc fun m acc=>lgStep 1 m acc fun m acc=>acc
def lgW (m:Nat):Nat:=
 bif Nat.beq (Nat.shiftRight m 128) 0 then lg7 m 0 else
 bif Nat.beq (Nat.shiftRight m 4096) 0 then lgStep 2048 m 0 fun m acc=>lgStep 1024 m acc fun m acc=>lgStep 512 m acc fun m acc=>lgStep 256 m acc fun m acc=>lgStep 128 m acc lg7
 else Nat.log2 m
theorem log2_shift {m k:Nat} (h:m >>> k≠0):m.log2=(m >>> k).log2+k:=by
 rw[Nat.shiftRight_eq_div_pow]at h ⊢
 have hm:m≠0:=fun e=>by subst e;simp at h
 have hp:0<2^k:=Nat.two_pow_pos k; have h1:=Nat.log2_self_le h; have h2:m/2^k<2^((m/2^k).log2+1):=Nat.lt_log2_self; have h3:2^((m/2^k).log2+k)≤m:=by
  rw[Nat.pow_add]
  exact Nat.le_trans (Nat.mul_le_mul_right _ h1) (Nat.div_mul_le_self m _)
 have h4:m<2^((m/2^k).log2+k+1):=by
  rw[show (m/2^k).log2+k+1=(m/2^k).log2+1+k by omega,Nat.pow_add]
  exact(Nat.div_lt_iff_lt_mul hp).1 h2
 have h5:=(Nat.le_log2 hm).2 h3; have h6:=(Nat.log2_lt hm).2 h4; omega
theorem lgStep_eq {k n m acc:Nat} {next:Nat→Nat→Nat} (hm:m<2^(n+k)) (hk:n≤k) (hnext:∀ m acc,m<2^k→next m acc=m.log2+acc) (hkk:n=k):lgStep k m acc next=m.log2+acc:=by
 unfold lgStep
 rw[forceN_eq,nb]
 show (bif decide (m >>> k=0) then next m acc else next (m >>> k) (acc+k))=_; by_cases h:m >>> k=0
 ·have:decide (m >>> k=0)=true:=by simp[h]
  rw[this]
  rw[Nat.shiftRight_eq_div_pow]at h
  have hp:0<2^k:=Nat.two_pow_pos k
  have:m<2^k:=by
   rcases Nat.lt_or_ge m (2^k) with g|g
   ·exact g
   ·have:=Nat.div_pos g hp;omega
  exact hnext m acc this
 ·have:decide (m >>> k=0)=false:=by simp[h]
  rw[this,cond_false,hnext,log2_shift h]
  ·omega
  ·rw[Nat.shiftRight_eq_div_pow]
   subst hkk
   rw[Nat.pow_add]at hm
   exact(Nat.div_lt_iff_lt_mul (Nat.two_pow_pos n)).2 hm
theorem lg7_eq {m acc:Nat} (h:m<2^128):lg7 m acc=m.log2+acc:=by
 unfold lg7; refine lgStep_eq (n:=64) h (by decide) (fun m acc h=>?_) rfl; refine lgStep_eq (n:=32) h (by decide) (fun m acc h=>?_) rfl; refine lgStep_eq (n:=16) h (by decide) (fun m acc h=>?_) rfl; refine lgStep_eq (n:=8) h (by decide) (fun m acc h=>?_) rfl; refine lgStep_eq (n:=4) h (by decide) (fun m acc h=>?_) rfl; refine lgStep_eq (n:=2) h (by decide) (fun m acc h=>?_) rfl; refine lgStep_eq (n:=1) h (by decide) (fun m acc h=>?_) rfl
 have:m=0∨m=1:=by omega
 rcases this with rfl|rfl
 ·simp
 ·rw[show Nat.log2 1=0 by decide];omega
theorem shift_zero {m k:Nat} (h:m >>> k=0):m<2^k:=by
 rw[Nat.shiftRight_eq_div_pow]at h
 rcases Nat.lt_or_ge m (2^k) with g|g
 ·exact g
 ·have:=Nat.div_pos g (Nat.two_pow_pos k);omega
theorem lgUp {j k:Nat} (hj:j=k+k) {next:Nat→Nat→Nat} (hnext:∀ m acc,m<2^k→next m acc=m.log2+acc):∀ m acc,m<2^j→lgStep k m acc next=m.log2+acc:=fun m acc h=>by
 subst hj; exact lgStep_eq (n:=k) h (Nat.le_refl _) hnext rfl
theorem lgW_eq (m:Nat):lgW m=m.log2:=by
 have u128:∀ m acc,m<2^128→lg7 m acc=m.log2+acc:=fun m acc h=>lg7_eq h
 generalize h1:(4096:Nat)=k4096; have u256:=lgUp (j:=256) (k:=128) rfl u128; generalize h256:(256:Nat)=k256 at u256; have u512:=lgUp (j:=512) (k:=k256) (by omega) u256; generalize h512:(512:Nat)=k512 at u512; have u1024:=lgUp (j:=1024) (k:=k512) (by omega) u512; generalize h1024:(1024:Nat)=k1024 at u1024; have u2048:=lgUp (j:=2048) (k:=k1024) (by omega) u1024; generalize h2048:(2048:Nat)=k2048 at u2048; have u4096:=lgUp (j:=k4096) (k:=k2048) (by omega) u2048; unfold lgW
 rw[nb,nb,h1,h256,h512,h1024,h2048]
 show (bif decide (m >>> 128=0) then lg7 m 0 else bif decide (m >>> k4096=0) then _ else m.log2)=_; by_cases h:m >>> 128=0
 ·have e:decide (m >>> 128=0)=true:=by simp only[h,decide_true]
  rw[e,cond_true,lg7_eq (shift_zero h)]
  omega
 ·have e:decide (m >>> 128=0)=false:=by simp only[h,decide_false]
  rw[e,cond_false]
  by_cases h2:m >>> k4096=0
  ·have e2:decide (m >>> k4096=0)=true:=by simp only[h2,decide_true]
   rw[e2,cond_true]
   exact(u4096 m 0 (shift_zero h2)).trans (by omega)
  ·have e2:decide (m >>> k4096=0)=false:=by simp only[h2,decide_false]
   rw[e2]
   rfl
def cutW (n drop:Nat):Nat:=
 forceN n fun n=>forceN drop fun drop=>forceN (Nat.add (lgW n) 2) fun lg=>forceN (Nat.shiftLeft 1 (bif Nat.ble drop lg then drop else lg)) fun g=>
 forceN (Nat.div n g) fun low=>forceN (Nat.mul 2 (Nat.mod n g)) fun rest=>
 bif Nat.blt g rest then Nat.succ low else bif Nat.beq g rest then (bif Nat.beq (Nat.mod low 2) 1 then Nat.succ low else low) else low
theorem cutW_eq (neg:Bool) (n drop:Nat):cutW n drop=Toward.even.cut neg n drop:=by
 unfold cutW Toward.cut; simp only[forceN_eq,nb,nl,nle,lgW_eq]; have hm:(bif decide (drop≤Nat.add n.log2 2) then drop else Nat.add n.log2 2)=min drop (n.log2+2):=by
  show (bif decide (drop≤n.log2+2) then drop else n.log2+2)=_; by_cases h:drop≤n.log2+2
  ·simp[h]
  ·simp[h];omega
 rw[hm]
 show (bif decide ((1 <<< min drop (n.log2+2))<2*(n % (1 <<< min drop (n.log2+2)))) then Nat.succ (n/(1 <<< min drop (n.log2+2))) else
  bif decide ((1 <<< min drop (n.log2+2))=2*(n % (1 <<< min drop (n.log2+2)))) then (bif decide (n/(1 <<< min drop (n.log2+2)) % 2=1) then Nat.succ (n/(1 <<< min drop (n.log2+2))) else n/(1 <<< min drop (n.log2+2))) else n/(1 <<< min drop (n.log2+2)))=_
 generalize 1 <<< min drop (n.log2+2)=g; generalize n/g=low; generalize 2*(n % g)=rest; by_cases h1:g<rest
 ·simp[h1]
 ·by_cases h2:g=rest
  ·by_cases h3:low % 2=1
   ·simp[h1,h2,h3]
   ·simp[h1,h2,h3]
  ·simp[h1,h2]
def nearG (c52 c63 ci B:Nat) (neg:Bool) (m P:Nat):Nat:=
 forceN m fun m=>forceN P fun P=>bif Nat.beq m 0 then (bif neg then c63 else 0) else
 forceN (Nat.add P (lgW m)) fun Q=>forceN (bif Nat.ble (Nat.add B 52) (Nat.add Q 1074) then Nat.sub Q 52 else Nat.sub B 1074) fun L=>
 forceN (bif Nat.ble L P then Nat.shiftLeft m (Nat.sub P L) else cutW m (Nat.sub L P)) fun kept=>
 forceN (Nat.add (Nat.mul (Nat.sub (Nat.add L 1074) B) c52) kept) fun r=>
 forceN (bif Nat.ble r ci then r else ci) fun r=>
 bif neg then Nat.add c63 r else r
def nearW (B:Nat) (neg:Bool) (m P:Nat):Nat:=nearG 4503599627370496 9223372036854775808 9218868437227405312 B neg m P
theorem cut_none (neg:Bool) (q:Nat):Toward.even.cut neg q 0=q:=by
 unfold Toward.cut; simp[Nat.mod_one]
theorem nearG_eq {c52 c63 ci B:Nat} (e1:double.signWeight=c63) (e2:double.binade=c52) (e3:double.infRung=ci) (hB:1126≤B) (neg:Bool) (m P:Nat):nearG c52 c63 ci B neg m P=double.nearest neg m ((P:Int)-B):=by
 have e4:double.leastPlace=-1074:=by decide
 have e5:double.fractionBits=52:=rfl; unfold nearG Format.nearest Format.word; simp only[forceN_eq,nb,nle,lgW_eq,e1,e2,e3,e4,e5]; by_cases hm:m=0
 ·rw[if_pos hm]
  have:decide (m=0)=true:=by simp[hm]
  rw[this]
  cases neg<;>simp
 ·rw[if_neg hm]
  have:decide (m=0)=false:=by simp[hm]
  rw[this]
  simp only[cond_false]
  have hL:(((bif decide (Nat.add B 52≤Nat.add (Nat.add P m.log2) 1074) then Nat.sub (Nat.add P m.log2) 52 else Nat.sub B 1074):Nat):Int)=max ((P:Int)-B+m.log2-(52:Nat)) (-1074)+B:=by
   show (((bif decide (B+52≤P+m.log2+1074) then P+m.log2-52 else B-1074):Nat):Int)=_; by_cases h:B+52≤P+m.log2+1074
   ·simp only[h,decide_true,cond_true];omega
   ·simp only[h,decide_false,cond_false];omega
  generalize (bif decide (Nat.add B 52≤Nat.add (Nat.add P m.log2) 1074) then Nat.sub (Nat.add P m.log2) 52 else Nat.sub B 1074)=L at *
  have hmax:max ((P:Int)-B+m.log2-(52:Nat)) (-1074)=(L:Int)-B:=by omega
  rw[hmax]
  have hk:(bif decide (L≤P) then Nat.shiftLeft m (Nat.sub P L) else cutW m (Nat.sub L P))=Toward.even.cut neg (m <<< ((P:Int)-B-((L:Int)-B)).toNat) ((L:Int)-B-((P:Int)-B)).toNat:=by
   by_cases h:L≤P
   ·simp only[h,decide_true,cond_true]
    have d0:((L:Int)-B-((P:Int)-B)).toNat=0:=by omega
    have d1:((P:Int)-B-((L:Int)-B)).toNat=P-L:=by omega
    rw[d0,d1,cut_none]
    rfl
   ·simp only[h,decide_false,cond_false]
    have d0:((L:Int)-B-((P:Int)-B)).toNat=L-P:=by omega
    have d1:((P:Int)-B-((L:Int)-B)).toNat=0:=by omega
    rw[d0,d1,cutW_eq neg]
    rfl
  rw[hk]
  generalize Toward.even.cut neg (m <<< ((P:Int)-B-((L:Int)-B)).toNat) ((L:Int)-B-((P:Int)-B)).toNat=kept; have hr:((L:Int)-B - -1074).toNat=L+1074-B:=by omega
  rw[hr]
  have hrr:Nat.add (Nat.mul (Nat.sub (Nat.add L 1074) B) c52) kept=(L+1074-B)*c52+kept:=rfl
  rw[hrr]
  generalize (L+1074-B)*c52+kept=r; have hmin:(bif decide (r≤ci) then r else ci)=min r ci:=by
   by_cases h:r≤ci
   ·simp only[h,decide_true,cond_true];omega
   ·simp only[h,decide_false,cond_false];omega
  rw[hmin]
  cases neg
  ·rfl
  ·rfl
theorem nearW_eq {B:Nat} (hB:1126≤B) (neg:Bool) (m P:Nat):nearW B neg m P=double.nearest neg m ((P:Int)-B):=
 nearG_eq (by decide) (by decide) (by decide) hB neg m P
def mulW (a b:Nat):Option Nat:=
 bif finW a && finW b then forceN (mantW a) fun ma=>forceN (mantW b) fun mb=>some (nearW 2148 (sgnW a ^^ sgnW b) (Nat.mul ma mb) (Nat.add (plcW a) (plcW b))) else double.mul a b
theorem mulW_eq (a b:Nat):mulW a b=double.mul a b:=by
 unfold mulW; cases h:(finW a && finW b) with
 |false=>rfl
 |true=>
  simp only[Bool.and_eq_true]at h
  simp only[cond_true,forceN_eq]
  unfold Format.mul
  rw[read_fast h.1,read_fast h.2,nearW_eq (by decide)]
  have e:(((Nat.add (plcW a) (plcW b):Nat)):Int)-(2148:Nat)=(plcW a:Int)-1074+((plcW b:Int)-1074):=by
   show (((plcW a+plcW b:Nat)):Int)-(2148:Nat)=_; omega
  rw[e]
  rfl
def sumW (s t:Bool) (m n p q:Nat):Nat:=
 forceN (bif Nat.ble p q then p else q) fun base=>forceN (Nat.shiftLeft m (Nat.sub p base)) fun x=>forceN (Nat.shiftLeft n (Nat.sub q base)) fun y=>
 bif s ^^ t then
  (bif Nat.blt y x then nearW 1126 s (Nat.sub x y) (Nat.add base 52) else bif Nat.blt x y then nearW 1126 t (Nat.sub y x) (Nat.add base 52) else 0)
 else nearW 1126 s (Nat.add x y) (Nat.add base 52)
theorem sumW_eq (s t:Bool) (m n p q:Nat):(Datum.sum (.number s m ((p:Int)-1074)) (.number t n ((q:Int)-1074))).map double.write=some (sumW s t m n p q):=by
 unfold sumW Datum.sum; simp only[forceN_eq,nl,nle]; have hb:min ((p:Int)-1074) ((q:Int)-1074)=((bif decide (p≤q) then p else q:Nat):Int)-1074:=by
  by_cases h:p≤q
  ·simp only[h,decide_true,cond_true];exact Int.min_eq_left (by omega)
  ·simp only[h,decide_false,cond_false];exact Int.min_eq_right (by omega)
 rw[hb]
 have hle:(bif decide (p≤q) then p else q)≤p∧(bif decide (p≤q) then p else q)≤q:=by
  by_cases h:p≤q
  ·have e:decide (p≤q)=true:=by simp[h]
   rw[e];exact⟨Nat.le_refl _,h⟩
  ·have e:decide (p≤q)=false:=by simp[h]
   rw[e];exact⟨by simp only[cond_false];omega,Nat.le_refl _⟩
 generalize (bif decide (p≤q) then p else q)=base at *
 have d1:((p:Int)-1074-((base:Int)-1074)).toNat=p-base:=by omega
 have d2:((q:Int)-1074-((base:Int)-1074)).toNat=q-base:=by omega
 rw[d1,d2]
 show Option.map double.write (some (Datum.number _ _ _))=some _
 rw[Option.map_some]
 congr 1
 show double.nearest _ _ _=_; have w1:∀(neg:Bool) (k:Nat),nearW 1126 neg k (Nat.add base 52)=double.nearest neg k ((base:Int)-1074):=fun neg k=>by
  rw[nearW_eq (by decide)]
  congr 1
  show ((base+52:Nat):Int)-(1126:Nat)=_; omega
 simp only[w1]
 show double.nearest (if signed s m (p-base)+signed t n (q-base)=0 then s && t else decide (signed s m (p-base)+signed t n (q-base)<0)) (signed s m (p-base)+signed t n (q-base)).natAbs ((base:Int)-1074) =
  (bif s ^^ t then (bif decide (n <<< (q-base)<m <<< (p-base)) then double.nearest s (m <<< (p-base)-n <<< (q-base)) ((base:Int)-1074) else bif decide (m <<< (p-base)<n <<< (q-base)) then double.nearest t (n <<< (q-base)-m <<< (p-base)) ((base:Int)-1074) else 0)
  else double.nearest s (m <<< (p-base)+n <<< (q-base)) ((base:Int)-1074))
 unfold signed; generalize m <<< (p-base)=x; generalize n <<< (q-base)=y; have z0:double.nearest false 0 ((base:Int)-1074)=0:=by
  unfold Format.nearest Format.word
  rw[if_pos rfl]
  rfl
 cases s<;>cases t
 ·simp only[Bool.false_eq_true,if_false,Bool.xor_self,cond_false]
  by_cases h:(x:Int)+y=0
  ·rw[if_pos h]
   have:((x:Int)+y).natAbs=x+y:=by omega
   rw[this];rfl
  ·rw[if_neg h]
   have:((x:Int)+y).natAbs=x+y:=by omega
   rw[this]
   have:decide ((x:Int)+y<0)=false:=by simp;omega
   rw[this]
 ·simp only[Bool.false_eq_true,if_false,if_true,Bool.false_xor,cond_true]
  by_cases h1:y<x
  ·rw[if_neg (by omega)]
   simp only[h1,decide_true,cond_true]
   have:((x:Int)+-(y:Int)).natAbs=x-y:=by omega
   rw[this]
   have:decide ((x:Int)+-(y:Int)<0)=false:=by simp;omega
   rw[this]
  ·by_cases h2:x<y
   ·rw[if_neg (by omega)]
    simp only[h1,h2,decide_true,decide_false,cond_true,cond_false]
    have:((x:Int)+-(y:Int)).natAbs=y-x:=by omega
    rw[this]
    have:decide ((x:Int)+-(y:Int)<0)=true:=by simp;omega
    rw[this]
   ·rw[if_pos (by omega)]
    simp only[h1,h2,decide_false,cond_false]
    have:((x:Int)+-(y:Int)).natAbs=0:=by omega
    rw[this]
    exact z0
 ·simp only[Bool.false_eq_true,if_false,if_true,Bool.xor_false,cond_true]
  by_cases h1:y<x
  ·rw[if_neg (by omega)]
   simp only[h1,decide_true,cond_true]
   have:(-(x:Int)+(y:Int)).natAbs=x-y:=by omega
   rw[this]
   have:decide (-(x:Int)+(y:Int)<0)=true:=by simp;omega
   rw[this]
  ·by_cases h2:x<y
   ·rw[if_neg (by omega)]
    simp only[h1,h2,decide_true,decide_false,cond_true,cond_false]
    have:(-(x:Int)+(y:Int)).natAbs=y-x:=by omega
    rw[this]
    have:decide (-(x:Int)+(y:Int)<0)=false:=by simp;omega
    rw[this]
   ·rw[if_pos (by omega)]
    simp only[h1,h2,decide_false,cond_false]
    have:(-(x:Int)+(y:Int)).natAbs=0:=by omega
    rw[this]
    exact z0
 ·simp only[if_true,Bool.xor_self,cond_false]
  by_cases h:-(x:Int)+-(y:Int)=0
  ·rw[if_pos h]
   have:(-(x:Int)+-(y:Int)).natAbs=x+y:=by omega
   rw[this];rfl
  ·rw[if_neg h]
   have:(-(x:Int)+-(y:Int)).natAbs=x+y:=by omega
   rw[this]
   have:decide (-(x:Int)+-(y:Int)<0)=true:=by simp;omega
   rw[this]
def addW (a b:Nat):Option Nat:=
 bif finW a && finW b then forceN (mantW a) fun ma=>forceN (mantW b) fun mb=>forceN (plcW a) fun pa=>forceN (plcW b) fun pb=>some (sumW (sgnW a) (sgnW b) ma mb pa pb) else double.add a b
theorem addW_eq (a b:Nat):addW a b=double.add a b:=by
 unfold addW; cases h:(finW a && finW b) with
 |false=>rfl
 |true=>
  simp only[Bool.and_eq_true]at h
  simp only[cond_true,forceN_eq]
  unfold Format.add
  rw[read_fast h.1,read_fast h.2,sumW_eq]
def subW (a b:Nat):Option Nat:=
 bif finW a && finW b then forceN (mantW a) fun ma=>forceN (mantW b) fun mb=>forceN (plcW a) fun pa=>forceN (plcW b) fun pb=>some (sumW (sgnW a) (!sgnW b) ma mb pa pb) else double.sub a b
theorem subW_eq (a b:Nat):subW a b=double.sub a b:=by
 unfold subW; cases h:(finW a && finW b) with
 |false=>rfl
 |true=>
  simp only[Bool.and_eq_true]at h
  simp only[cond_true,forceN_eq]
  unfold Format.sub
  rw[read_fast h.1,read_fast h.2]
  show _=(Datum.sum (.number (sgnW a) (mantW a) ((plcW a:Int)-1074)) (.number (!sgnW b) (mantW b) ((plcW b:Int)-1074))).map double.write
  rw[sumW_eq]
def divW (a b:Nat):Option Nat:=
 bif finW a && finW b then forceN (mantW a) fun m=>forceN (mantW b) fun n=>
  bif Nat.beq n 0 then double.div a b else
  forceN (Nat.sub (Nat.add 54 (lgW n)) (lgW m)) fun more=>forceN (Nat.shiftLeft m more) fun d=>
  some (nearW 4000 (sgnW a ^^ sgnW b) (Nat.add (Nat.mul 2 (Nat.div d n)) (bif Nat.beq (Nat.mod d n) 0 then 0 else 1)) (Nat.sub (Nat.add (plcW a) 3999) (Nat.add (plcW b) more)))
 else double.div a b
theorem divW_eq (a b:Nat):divW a b=double.div a b:=by
 unfold divW; cases h:(finW a && finW b) with
 |false=>rfl
 |true=>
  simp only[Bool.and_eq_true]at h
  simp only[cond_true,forceN_eq,nb,lgW_eq]
  by_cases hn:mantW b=0
  ·simp only[hn,decide_true,cond_true]
  ·simp only[hn,decide_false,cond_false]
   unfold Format.div
   rw[read_fast h.1,read_fast h.2]
   unfold Datum.quotient; simp only[hn,if_false]; show some _=some _; congr 1
   rw[nearW_eq (by decide)]
   show double.nearest _ _ _=double.nearest _ _ _; have hmm:Nat.sub (Nat.add 54 (mantW b).log2) (mantW a).log2=double.fractionBits+2+(mantW b).log2-(mantW a).log2:=rfl
   rw[hmm]
   have hp:plcW b≤2046:=by
    have hb:=h.2; unfold finW at hb
    rw[nl]at hb
    have:expoW b<2047:=by simpa using hb
    show expoW b-1≤2046; omega
   have hl:(mantW b).log2≤53:=by
    have:mantW b<2^54:=by
     unfold mantW
     have:Nat.mod b 4503599627370496<4503599627370496:=Nat.mod_lt _ (by decide)
     cases Nat.beq (expoW b) 0
     ·show 4503599627370496+Nat.mod b 4503599627370496<2^54;omega
     ·show Nat.mod b 4503599627370496<2^54;omega
    have:=(Nat.log2_lt hn).2 this
    omega
   have hf:double.fractionBits=52:=rfl; have hmore:double.fractionBits+2+(mantW b).log2-(mantW a).log2≤107:=by omega
   generalize double.fractionBits+2+(mantW b).log2-(mantW a).log2=more at *
   congr 1
   ·show 2*(mantW a <<< more/mantW b)+(bif decide (mantW a <<< more % mantW b=0) then 0 else 1)=_; by_cases g:mantW a <<< more % mantW b=0
    ·simp[g]
    ·have g2:((mantW a <<< more) % mantW b != 0)=true:=by simpa using g
     have g3:decide ((mantW a <<< more) % mantW b=0)=false:=by simpa using g
     rw[g2,g3]
     rfl
   ·show ((plcW a+3999-(plcW b+more):Nat):Int)-(4000:Nat)=_; omega
def fbF (op:BinOp) (a b:Nat):Option Nat:=
 match op with
 |.add=>addW a b
 |.sub=>subW a b
 |.mul=>mulW a b
 |.quo=>divW a b
 |op=>floatBits op .f64 a b
theorem fbF_eq (op:BinOp) (a b:Nat):fbF op a b=floatBits op .f64 a b:=by
 unfold fbF; split
 ·rw[addW_eq];rfl
 ·rw[subW_eq];rfl
 ·rw[mulW_eq];rfl
 ·rw[divW_eq];rfl
 ·rfl
def ordW (a b:Nat):Option Ordering:=
 bif finW a && finW b then
  forceN (mantW a) fun m=>forceN (mantW b) fun n=>forceN (plcW a) fun p=>forceN (plcW b) fun q=>
  forceN (bif Nat.ble p q then p else q) fun base=>forceN (Nat.shiftLeft m (Nat.sub p base)) fun x=>forceN (Nat.shiftLeft n (Nat.sub q base)) fun y=>
  bif sgnW a then
   (bif sgnW b then (bif Nat.beq x y then some .eq else bif Nat.blt y x then some .lt else some .gt)
    else (bif Nat.beq x 0 && Nat.beq y 0 then some .eq else some .lt))
  else
   (bif sgnW b then (bif Nat.beq x 0 && Nat.beq y 0 then some .eq else some .gt)
    else (bif Nat.beq x y then some .eq else bif Nat.blt x y then some .lt else some .gt))
 else double.order a b
theorem cmp_int (x y:Int):compare x y=if x<y then .lt else if x=y then .eq else .gt:=by
 show compareOfLessAndEq x y=_; rfl
theorem ordW_eq (a b:Nat):ordW a b=double.order a b:=by
 unfold ordW; cases h:(finW a && finW b) with
 |false=>rfl
 |true=>
  simp only[Bool.and_eq_true]at h
  simp only[cond_true,forceN_eq,nb,nl,nle]
  unfold Format.order
  rw[read_fast h.1,read_fast h.2]
  unfold Datum.order; simp only; generalize plcW a=p; generalize plcW b=q; generalize mantW a=m; generalize mantW b=n; have hb:min ((p:Int)-1074) ((q:Int)-1074)=((bif decide (p≤q) then p else q:Nat):Int)-1074:=by
   by_cases h:p≤q
   ·simp only[h,decide_true,cond_true];exact Int.min_eq_left (by omega)
   ·simp only[h,decide_false,cond_false];exact Int.min_eq_right (by omega)
  rw[hb]
  have hle:(bif decide (p≤q) then p else q)≤p∧(bif decide (p≤q) then p else q)≤q:=by
   by_cases h:p≤q
   ·have e:decide (p≤q)=true:=by simp[h]
    rw[e];exact⟨Nat.le_refl _,h⟩
   ·have e:decide (p≤q)=false:=by simp[h]
    rw[e];exact⟨by simp only[cond_false];omega,Nat.le_refl _⟩
  generalize (bif decide (p≤q) then p else q)=base at *
  have d1:((p:Int)-1074-((base:Int)-1074)).toNat=p-base:=by omega
  have d2:((q:Int)-1074-((base:Int)-1074)).toNat=q-base:=by omega
  rw[d1,d2,cmp_int]
  unfold signed; show (bif sgnW a then (bif sgnW b then (bif decide (m <<< (p-base)=n <<< (q-base)) then some Ordering.eq else bif decide (n <<< (q-base)<m <<< (p-base)) then some .lt else some .gt) else (bif decide (m <<< (p-base)=0) && decide (n <<< (q-base)=0) then some .eq else some .lt))
   else (bif sgnW b then (bif decide (m <<< (p-base)=0) && decide (n <<< (q-base)=0) then some .eq else some .gt) else (bif decide (m <<< (p-base)=n <<< (q-base)) then some .eq else bif decide (m <<< (p-base)<n <<< (q-base)) then some .lt else some .gt)))=_
  generalize m <<< (p-base)=x; generalize n <<< (q-base)=y; cases sgnW a<;>cases sgnW b
  ·simp only[cond_false,Bool.false_eq_true,if_false]
   by_cases g1:x=y
   ·subst g1;simp
   ·by_cases g2:x<y
    ·simp[g1,g2]
    ·have:¬ ((x:Int)<y):=by omega
     have:¬ ((x:Int)=y):=by omega
     rw[if_neg ‹_›,if_neg ‹_›]
     simp[g1,g2]
  ·simp only[cond_false,cond_true,Bool.false_eq_true,if_false,if_true]
   by_cases g1:x=0∧y=0
   ·obtain⟨rfl,rfl⟩:=g1;simp
   ·have g2:(decide (x=0) && decide (y=0))=false:=by simp;omega
    rw[g2,if_neg (by omega),if_neg (by omega)]
    rfl
  ·simp only[cond_false,cond_true,Bool.false_eq_true,if_false,if_true]
   by_cases g1:x=0∧y=0
   ·obtain⟨rfl,rfl⟩:=g1;simp
   ·have g2:(decide (x=0) && decide (y=0))=false:=by simp;omega
    rw[g2,if_pos (by omega)]
    rfl
  ·simp only[cond_true,if_true]
   by_cases g1:x=y
   ·subst g1;simp
   ·by_cases g2:y<x
    ·have q1:-(x:Int) < -(y:Int):=by omega
     simp[g1,g2]
    ·have q1:¬ (-(x:Int) < -(y:Int)):=by omega
     have q2:¬ (-(x:Int)=-(y:Int)):=by omega
     rw[if_neg q1,if_neg q2]
     simp[g1,g2]
def calm {α:Type} (P:Program):Sem α→Option α
 |.pure a=>some a
 |.program k=>calm P (k P)
 |.mark _ k=>calm P k
 |_=>none
theorem calm_run {α:Type} {P:Program}:∀{s:Sem α} {x:α},calm P s=some x→∀ w,s.run P w=.ok x w
 |.pure a,x,h,w=>by simp[calm]at h;subst h;rfl
 |.program k,x,h,w=>calm_run (s:=k P) h w
 |.mark m k,x,h,w=>calm_run (s:=k) h w
 |.load ..,_,h,_ | .store ..,_,h,_ | .new ..,_,h,_ | .shape ..,_,h,_ | .freeze ..,_,h,_ | .frozen ..,_,h,_
 |.getObj ..,_,h,_ | .setObj ..,_,h,_ | .choose ..,_,h,_ | .sys ..,_,h,_ | .halt ..,_,h,_=>by simp[calm]at h
def forceI {R:Type} (n:Int) (k:Int→R):R:=match n with | .ofNat a=>forceN a fun a=>k (.ofNat a) | .negSucc a=>forceN a fun a=>k (.negSucc a)
theorem forceI_eq {R:Type} (n:Int) (k:Int→R):forceI n k=k n:=by cases n<;>simp[forceI,forceN_eq]
abbrev Fi:=∀ R:Type,Int→(Int→Option R)→Option R
def Fi.Fair (fi:Fi):Prop:=∀(R:Type) (n:Int) (k:Int→Option R),fi R n k=k n
def fiReal:Fi:=fun R n k=>forceI n k
theorem fiReal_fair:Fi.Fair fiReal:=fun R n k=>forceI_eq n k
def forceB {R:Type} (b:Bool) (k:Bool→R):R:=match b with|true=>k true|false=>k false
theorem forceB_eq {R:Type} (b:Bool) (k:Bool→R):forceB b k=k b:=by cases b<;>rfl
def bindF {R:Type} (o:Option Nat) (k:Nat→Option R):Option R:=o.bind fun n=>forceN n k
theorem bindF_some {R:Type} {o:Option Nat} {k:Nat→Option R} {r:R} (h:bindF o k=some r):∃ n,o=some n∧k n=some r:=by
 cases o with
 |none=>simp[bindF]at h
 |some n=>exact⟨n,rfl,by simpa[bindF,forceN_eq] using h⟩
theorem bind_some' {α R:Type} {o:Option α} {k:α→Option R} {r:R} (h:o.bind k=some r):∃ n,o=some n∧k n=some r:=by
 cases o with
 |none=>simp at h
 |some n=>exact⟨n,rfl,by simpa using h⟩
def opd (e:Env):Operand→Option Value
 |.tmp t=>getE t e
 |.const v=>bif flat v then some v else none
 |.global _=>none
 |.func f=>some (.func (.func f) #[] #[])
theorem opd_rel {ρ:Map} {e:Env} {a:Act} (he:EnvRel ρ e a.tmps) {x:Operand} {v:Value} (h:opd e x=some v):VRel ρ v (a.eval x):=by
 cases x with
 |tmp t=>
  obtain⟨v',h1,h2⟩:=he t v h
  simp only[Act.eval,Array.getD_eq_getD_getElem?,h1,Option.getD_some]
  exact h2
 |const u=>
  simp only[opd]at h
  cases hf:flat u with
  |true=>simp[hf]at h;subst h;exact VRel.ofFlat ρ hf
  |false=>simp[hf]at h
 |global g=>simp[opd]at h
 |func f=>simp[opd]at h;subst h;exact .func _ .nil .nil
def Done (P:Program) (lo:Nat) (o:Oper) (a:Act) (ρ:Map) (H:AH) (w:World) (v:Value) (H':AH):Prop:=
 ∃ ρ' w' v' n,(execOp a.eval o).run P w=.ok n w'∧(n=.value v'∨(n=.skip∧v'=undef))∧Next lo ρ H w ρ' H' w'∧VRel ρ' v v'
theorem Done.calm {P:Program} {lo:Nat} {o:Oper} {a:Act} {ρ:Map} {H:AH} {w:World} {v v':Value} (hi:Inv ρ H w)
  (hr:(execOp a.eval o).run P w=.ok (.value v') w) (hv:VRel ρ v v'):Done P lo o a ρ H w v H:=
 ⟨ρ,w,v',_,hr,.inl rfl,Next.refl hi,hv⟩
theorem VRels.length {ρ:Map}:∀{v v':List Value},VRels ρ v v'→v'.length=v.length
 |_,_,.nil=>rfl
 |_,_,.cons _ hs=>by simp[hs.length]
theorem VRels.append {ρ:Map}:∀{a a' b b':List Value},VRels ρ a a'→VRels ρ b b'→VRels ρ (a++b) (a'++b')
 |_,_,_,_,.nil,h=>h
 |_,_,_,_,.cons h hs,g=>.cons h (hs.append g)
theorem VRels.drop {ρ:Map}:∀{a a':List Value} (n:Nat),VRels ρ a a'→VRels ρ (a.drop n) (a'.drop n)
 |_,_,0,h=>h
 |_,_,n+1,.nil=>.nil
 |_,_,n+1,.cons _ hs=>by simpa using hs.drop n
theorem VRels.take {ρ:Map}:∀{a a':List Value} (n:Nat),VRels ρ a a'→VRels ρ (a.take n) (a'.take n)
 |_,_,0,_=>.nil
 |_,_,n+1,.nil=>.nil
 |_,_,n+1,.cons h hs=>by simpa using .cons h (hs.take n)
theorem VRels.get {ρ:Map}:∀{a a':List Value} (n:Nat) {v:Value},VRels ρ a a'→a[n]?=some v→∃ v',a'[n]?=some v'∧VRel ρ v v'
 |_,_,_,_,.nil,h=>by simp at h
 |_,_,0,_,.cons h _,e=>by simp at e;subst e;exact⟨_,rfl,h⟩
 |_,_,n+1,_,.cons _ hs,e=>by simpa using hs.get n (by simpa using e)
theorem VRel.oneCell {ρ:Map} {v v':Value} (h:VRel ρ v v') (h1:v.oneCell'=true):v'.oneCell'=true:=by
 cases h<;>simp_all [Value.oneCell']
theorem VRel.cells {ρ:Map} {v v':Value} (h:VRel ρ v v'):VRels ρ v.cells.toList v'.cells.toList:=by
 cases h with
 |agg h=>simpa[Value.cells] using h
 |bool b=>exact .cons (.bool b) .nil
 |int k n=>exact .cons (.int k n) .nil
 |float n=>exact .cons (.float n) .nil
 |nan n h=>exact .cons (.nan n h) .nil
 |complex x y=>exact .cons (.complex x y) .nil
 |cnan h g=>exact .cons (.cnan h g) .nil
 |string s=>exact .cons (.string s) .nil
 |nilPtr=>exact .cons .nilPtr .nil
 |ptr h=>exact .cons (.ptr h) .nil
 |nilSlice n c=>exact .cons (.nilSlice n c) .nil
 |slice h=>exact .cons (.slice h) .nil
 |nilMap=>exact .cons .nilMap .nil
 |map h=>exact .cons (.map h) .nil
 |nilFunc=>exact .cons .nilFunc .nil
 |func f ha hb=>exact .cons (.func f ha hb) .nil
 |nilIface=>exact .cons .nilIface .nil
 |iface t h=>exact .cons (.iface t h) .nil
 |tuple h=>exact .cons (.tuple h) .nil
def isRowB (P:Program) (t:TypeId):Bool:=
 match P.underlying t with
 |some (.struct _)=>true
 |some (.array _ _)=>true
 |_=>false
def loadE {R:Type} (P:Program) (t:TypeId) (cs:List Value) (off:Nat) (k:Value→Option R):Option R:=
 bif isRowB P t then
  bif Nat.ble (off+P.cellsOf t) cs.length && !Nat.beq (P.cellsOf t) 0 then k (.agg ⟨(cs.drop off).take (P.cellsOf t)⟩) else none
 else bif (P.underlying t).isSome then (cs[off]?).bind k else none
theorem info_of_cells {P:Program} {t:TypeId} (h:P.cellsOf t≠0):(P.info? t).map (·.size)=some (P.cellsOf t):=by
 unfold Program.cellsOf at *
 cases hi:P.info? t with
 |none=>simp[hi]at h
 |some i=>simp
theorem run_loadVar_plain {P:Program} {t:TypeId} {d:TypeDesc} {ad:Addr} {v:Value} {w:World} (hu:P.underlying t=some d) (hd:d.isRow=false)
  (hc:w.cell? ad=some v):(loadVar t ad).run P w=.ok v w:=by
 have:(isAgg t).run P w=.ok false w:=by
  unfold isAgg
  rw[Sem.run_bind,run_underlying hu w]
  cases d<;>simp_all
 simp[loadVar,this,hc]
theorem loadE_sound {R:Type} {P:Program} {t:TypeId} {cs:List Value} {off:Nat} {k:Value→Option R} {r:R} (h:loadE P t cs off k=some r):
  ∃ v,k v=some r∧∀{ρ:Map} {s:Spot} {sz:Nat} {w:World},OHas ρ (.cells cs sz) s w→∃ v',(loadVar t ⟨s.b,s.d+off,none⟩).run P w=.ok v' w∧VRel ρ v v':=by
 have hcell:∀{arr:Array Value} {ty:TypeId} {cs':List Value} {s:Spot} {w:World},∀{n:Nat},Lies w s.b arr ty s.d n→(∀(i:Nat) v,cs'[i]?=some v→arr[s.d+i]?=some v)→
   ∀(i:Nat) v,cs'[i]?=some v→w.cell? ⟨s.b,s.d+i,none⟩=some v:=fun hb hc i v hv=>by
  obtain⟨⟨fr,hb⟩,_⟩:=hb
  simp[World.cell?,hb,hc i v hv]
 unfold loadE at h; cases hrow:isRowB P t with
 |true=>
  simp only[hrow,cond_true]at h
  cases hlen:Nat.ble (off+P.cellsOf t) cs.length && !Nat.beq (P.cellsOf t) 0 with
  |false=>simp[hlen]at h
  |true=>
   simp only[hlen,cond_true]at h
   simp only[Bool.and_eq_true,Nat.ble_eq,Bool.not_eq_true']at hlen
   have hz:P.cellsOf t≠0:=fun e=>by have:=hlen.2;simp[e]at this
   have hd:∃ d,P.underlying t=some d∧d.isRow=true:=by
    unfold isRowB at hrow; split at hrow
    ·exact⟨_,‹_›,rfl⟩
    ·exact⟨_,‹_›,rfl⟩
    ·cases hrow
   obtain⟨d0,hu,hd0⟩:=hd
   refine⟨_,h,fun{ρ s sz w} ho=>?_⟩
   obtain⟨arr,ty,cs',hb,hr,hc,_⟩:=ho
   have hl:((cs'.drop off).take (P.cellsOf t)).length=P.cellsOf t:=by
    have:=hr.length
    simp
    omega
   refine⟨.agg ⟨(cs'.drop off).take (P.cellsOf t)⟩,?_,.agg ((hr.drop off).take _)⟩
   refine run_loadVar_mid w s.b (s.d+off) t _ d0 (fun j v hv=>?_) hu hd0 (by rw[hl];exact info_of_cells hz)
   rw[Nat.add_assoc]
   refine hcell hb hc (off+j) v ?_
   rw[List.getElem?_take]at hv
   split at hv
   ·simpa[List.getElem?_drop] using hv
   ·cases hv
 |false=>
  simp only[hrow,cond_false]at h
  cases hu:P.underlying t with
  |none=>simp[hu]at h
  |some d0=>
   simp only[hu,Option.isSome_some,cond_true]at h
   obtain⟨v,h1,h2⟩:=bind_some' h
   have hd0:d0.isRow=false:=by
    unfold isRowB at hrow
    rw[hu]at hrow
    cases d0<;>simp_all
   refine⟨v,h2,fun{ρ s sz w} ho=>?_⟩
   obtain⟨arr,ty,cs',hb,hr,hc,_⟩:=ho
   obtain⟨v',h3,h4⟩:=hr.get off h1
   exact⟨v',run_loadVar_plain hu hd0 (hcell hb hc off v' h3),h4⟩
def splice (cs:List Value) (off:Nat) (vs:List Value):List Value:=cs.take off++(vs++cs.drop (off+vs.length))
def allOne:List Value→Bool
 |[]=>true
 |v::r=>v.oneCell' && allOne r
theorem allOne_rel {ρ:Map}:∀{v v':List Value},VRels ρ v v'→allOne v=true→∀ x∈v',x.oneCell'=true
 |_,_,.nil,_=>by simp
 |_,_,.cons h hs,hx=>by
  simp only[allOne,Bool.and_eq_true]at hx
  intro x hm; rcases List.mem_cons.1 hm with rfl|hm
  ·exact h.oneCell hx.1
  ·exact allOne_rel hs hx.2 x hm
theorem VRels.splice {ρ:Map} {cs cs' vs vs':List Value} (h:VRels ρ cs cs') (g:VRels ρ vs vs') (off:Nat):VRels ρ (splice cs off vs) (splice cs' off vs'):=by
 unfold Vm.splice
 rw[g.length]
 exact(h.take off).append (g.append (h.drop _))
theorem setCells_heap (b:Nat):∀(vs:List Value) (o:Nat) (w:World) (arr:Array Value) (ty:TypeId) (fz:Nat×Nat),w.heap[b]?=some (.cells arr ty fz)→
  (w.setCells b o vs).heap[b]?=some (.cells (vs.zipIdx.foldl (fun a x=>a.setIfInBounds (o+x.2) x.1) arr) ty fz)∧(∀ b':Nat,b'≠b→(w.setCells b o vs).heap[b']?=w.heap[b']?)∧
  (w.setCells b o vs).heap.size=w.heap.size∧(w.setCells b o vs).os=w.os∧(w.setCells b o vs).tape=w.tape∧(w.setCells b o vs).output=w.output
 |[],o,w,arr,ty,fz,h=>⟨by simpa[World.setCells] using h,fun _ _=>rfl,rfl,rfl,rfl,rfl⟩
 |v::r,o,w,arr,ty,fz,h=>by
  have h1:(w.setCell ⟨b,o,none⟩ v).heap[b]?=some (.cells (arr.setIfInBounds o v) ty fz):=by
   simp[World.setCell,Array.getElem?_modify,h]
  obtain⟨g1,g2,g3,g4,g5,g6⟩:=setCells_heap b r (o+1) _ _ _ _ h1
  refine⟨?_,fun b' hb'=>?_,?_,g4,g5,g6⟩
  ·rw[World.setCells,g1]
   congr 2
   rw[List.zipIdx_cons,List.foldl_cons]
   simp only[Nat.add_zero,Nat.zero_add]
   rw[List.zipIdx_succ,List.foldl_map]
   congr 1
   funext a x
   obtain⟨x1,x2⟩:=x
   simp only
   congr 1
   omega
  ·rw[World.setCells,g2 b' hb']
   simp only[World.setCell,Array.getElem?_modify]
   rw[if_neg (by simpa using Ne.symm hb')]
  ·rw[World.setCells,g3];simp
theorem foldl_set_get (vs:List Value):∀(o:Nat) (arr:Array Value) (i:Nat),(vs.zipIdx.foldl (fun a x=>a.setIfInBounds (o+x.2) x.1) arr)[i]? =
  if o≤i∧i<o+vs.length∧i<arr.size then vs[i-o]? else arr[i]?:=by
 induction vs with
 |nil=>intro o arr i;simp;intro h;omega
 |cons v r ih=>
  intro o arr i
  have:(((v::r).zipIdx).foldl (fun a x=>a.setIfInBounds (o+x.2) x.1) arr)=(r.zipIdx.foldl (fun a x=>a.setIfInBounds (o+1+x.2) x.1) (arr.setIfInBounds o v)):=by
   rw[List.zipIdx_cons,List.foldl_cons]
   simp only[Nat.add_zero,Nat.zero_add]
   rw[List.zipIdx_succ,List.foldl_map]
   congr 1
   funext a x
   obtain⟨x1,x2⟩:=x
   simp only
   congr 1
   omega
  rw[this,ih]
  simp only[Array.size_setIfInBounds,List.length_cons]
  by_cases h1:o+1≤i∧i<o+1+r.length∧i<arr.size
  ·rw[if_pos h1,if_pos (by omega)]
   rw[show i-o=(i-(o+1))+1 by omega]
   simp
  ·rw[if_neg h1]
   by_cases h2:i=o
   ·subst h2; by_cases h3:i<arr.size
    ·rw[if_pos (by omega)]
     simp[h3]
    ·rw[if_neg (by omega)]
     simp[h3]
   ·rw[if_neg (by omega),Array.getElem?_setIfInBounds_ne (Ne.symm h2)]
def storeE {R:Type} (P:Program) (lo:Nat) (H:AH) (t:TypeId) (ad:Addr) (v:Value) (k:AH→Option R):Option R:=
 match look ad.block H.objs with
 |some (.cells cs sz)=>
  bif Nat.ble lo ad.block && Nat.beq v.cells.toList.length (P.cellsOf t) && !Nat.beq (P.cellsOf t) 0 && Nat.ble (ad.off+v.cells.toList.length) cs.length && allOne v.cells.toList && ad.spot.isNone then
   k (H.put ad.block (.cells (splice cs ad.off v.cells.toList) sz))
  else none
 |_=>none
theorem splice_get {cs vs:List Value} {off i:Nat} (hl:off+vs.length≤cs.length):
  (splice cs off vs)[i]?=if off≤i∧i<off+vs.length then vs[i-off]? else cs[i]?:=by
 have h1:(cs.take off).length=off:=by simp;omega
 unfold splice; by_cases ha:i<off
 ·rw[if_neg (by omega),List.getElem?_append_left (by omega),List.getElem?_take,if_pos ha]
 ·rw[List.getElem?_append_right (by omega),h1]
  by_cases hb:i<off+vs.length
  ·rw[if_pos (by omega),List.getElem?_append_left (by omega)]
  ·rw[if_neg (by omega),List.getElem?_append_right (by omega),List.getElem?_drop]
   congr 1
   omega
theorem splice_length {cs vs:List Value} {off:Nat} (hl:off+vs.length≤cs.length):(splice cs off vs).length=cs.length:=by
 simp[splice];omega
theorem foldl_set_size (vs:List Value) (o:Nat) (arr:Array Value):(vs.zipIdx.foldl (fun a x=>a.setIfInBounds (o+x.2) x.1) arr).size=arr.size:=by
 generalize vs.zipIdx=l; induction l generalizing arr with
 |nil=>rfl
 |cons x r ih=>rw[List.foldl_cons,ih];simp
theorem storeE_sound {R:Type} {P:Program} {lo:Nat} {H:AH} {t:TypeId} {ad:Addr} {v:Value} {k:AH→Option R} {r:R} (h:storeE P lo H t ad v k=some r):
  ∃ H',k H'=some r∧∀{ρ:Map} {w:World} {ad':Addr} {v':Value},Inv ρ H w→VRel ρ (.pointer (some ad)) (.pointer (some ad'))→VRel ρ v v'→
   ∃ w',(storeVar t ad' v').run P w=.ok () w'∧Next lo ρ H w ρ H' w':=by
 unfold storeE at h; split at h
 ·rename_i cs sz hl; cases hc:(Nat.ble lo ad.block && Nat.beq v.cells.toList.length (P.cellsOf t) && !Nat.beq (P.cellsOf t) 0 && Nat.ble (ad.off+v.cells.toList.length) cs.length && allOne v.cells.toList && ad.spot.isNone) with
  |false=>rw[hc]at h;cases h
  |true=>
   rw[hc]at h
   simp only[cond_true]at h
   simp only[Bool.and_eq_true,Nat.ble_eq,Nat.beq_eq,Bool.not_eq_true']at hc
   obtain⟨⟨⟨⟨⟨h1,h2⟩,h3⟩,h4⟩,h5⟩,h6⟩:=hc
   have hm:=look_mem hl
   refine⟨_,h,fun{ρ w ad' v'} hi hp hv=>?_⟩
   cases hp with
   |ptr hk=>
    rename_i kb o s; simp only at *
    obtain⟨s2,e1,e2⟩:=hi.rel.obj kb _ hm
    rw[hk]at e1
    obtain rfl:s=s2:=by simpa using e1
    obtain⟨arr,ty,cs',hlies,hr,hcc,hext,hx0⟩:=e2
    obtain⟨⟨fr,hb⟩,hz0⟩:=id hlies
    have hcl:=hv.cells; have hlen:=hcl.length; have hcslen:=hr.length; have hone:=allOne_rel hcl h5; have hcell:∀ i,i<cs.length→∃ u,arr[s.d+i]?=some u:=fun i hi=>by
     have hlt:i<cs'.length:=by omega
     exact⟨cs'[i],hcc i _ (by simp[hlt])⟩
    have hz:P.cellsOf t≠0:=fun e=>by simp[e]at h3
    have hst:=run_storeCells_cells (P:=P) s.b (s.d+o) v'.cells.toList 0 w (fun j hj=>by
      obtain⟨u,hu⟩:=hcell (o+j) (by omega)
      rw[show s.d+o+0+j=s.d+(o+j) by omega]
      simp[World.cell?,hb,hu]) (fun j hj=>by
      rw[show s.d+o+0+j=s.d+(o+j) by omega]
      exact hz0 _ (by omega)) hone
    simp only[Nat.add_zero]at hst
    obtain⟨g1,g2,g3,g4,g5,g6⟩:=setCells_heap s.b v'.cells.toList (s.d+o) w arr ty fr hb
    refine⟨w.setCells s.b (s.d+o) v'.cells.toList,?_,Next.write hi hm h1 hk _ g3 g4 g5 g6 g2 ⟨_,ty,splice cs' o v'.cells.toList,hlies.put hb g1 rfl (by rw[splice_length (by omega)];exact Nat.le_refl _),?_,fun i u hu=>?_,?_,hx0⟩⟩
    ·have hi':=info_of_cells hz; cases hq:P.info? t with
     |none=>simp[hq]at hi'
     |some inf=>
      have hs:v'.cells.size=inf.size:=by
       simp[hq]at hi'
       have:v'.cells.toList.length=v'.cells.size:=by simp
       omega
      simp[storeVar,sizeOf,typeInfo,hq,hs,hst]
    ·exact hr.splice hcl o
    ·rw[splice_get (by omega)]at hu
     rw[foldl_set_get]
     split at hu
     ·rename_i hin
      have:s.d+i<arr.size:=by
       obtain⟨u',hu'⟩:=hcell i (by omega)
       exact(Array.getElem?_eq_some_iff.1 hu').1
      rw[if_pos (by omega),show s.d+i-(s.d+o)=i-o by omega]
      exact hu
     ·rename_i hout
      rw[if_neg (by omega)]
      exact hcc i u hu
    ·rw[splice_length (by omega),foldl_set_size]
     exact hext
 ·cases h
end Go.Vm
