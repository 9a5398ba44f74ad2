/- A part; no conditions. -/
import Derived.Test.YtaogignikkjkjaaGreatVmWA3
set_option maxRecDepth 1000000
set_option maxHeartbeats 1000000
set_option linter.all false
open Go.Proofs.Tryz renaming prog->P9
open Nat renaming beq->N9
open Go renaming IntKind->K9,floatToIntVal->J9,FloatKind->k9
namespace Go.Vm
open Go.Proofs
noncomputable def moR:Cx:=moC aG kO n2K n1K mR pB
theorem aZr:moR.Ok:=aC1 (.cons k53 h53 (.cons bTd bD5 (.cons bTe bL4 (.cons bTf bSs (.cons bXu bSr .nil))))) .nil .nil
theorem aSp:fP moA=[]:=by kernel_rfl
theorem bMv:Tryz.f56.body=some (bB 56):=by kernel_rfl
theorem bE0:Tryz.f20.body=some (bB 20):=by kernel_rfl
theorem cFn:Has P9 56:=⟨Tryz.f56,_,Tryz.func56,by kernel_rfl,rfl⟩
structure Dv(y:Nat)(b:Nat):Prop where
 is:Wd y ((2^b:Nat):Int)
 le:1<=b/\b<=3
 fr:∀(R:Type)(k:Nat->Int->Option R),mR R y k=k 4602678819172646912 ((b:Int)+1)
 ab:∀(R:Type)(k:KNO R),kO R y k=k y
 ld:∀j:Nat,j+b<10->∀(R:Type)(k:KNO R),pB R y j k=k (fI ((2^(j+b):Nat):Int))
 top:∀(fi:Fi)(ab:KFF)(n2:yY)(n1:KF1)(fr:aH6)(ld:aKy)(L:qR)(R:Type)(x:Nat)(K:Ex->Env->dF->Option R),bE (moC fi ab n2 n1 fr ld) 60 (eS [7,5,6,0,1] [] L) 0 62 (bB 56) (gX 0 [.float .f64 x,.float .f64 y]) ⟨0,[]⟩ (aU [4] [] K) =
  n2 R x 0 0 (n1 R x (n1 R y (ab R y λy=>fr R y λyf ye=>bif ltF x 0 then bH (Op.negFloat .f64 x) λr=>L R 0 62 moA (moE x y yf r ye) ⟨0,[]⟩ (moZ (moC fi ab n2 n1 fr ld) L K)
   else L R 0 62 moA (moE x y yf x ye) ⟨0,[]⟩ (moZ (moC fi ab n2 n1 fr ld) L K))))
theorem bTy:Dv 4620693217682128896 3:=⟨pU (n:=8) (by decide),by decide,fr8,λR k=>by kernel_rfl,λj h=>ld8 j (by omega),bMy⟩
theorem bTx:Dv 4616189618054758400 2:=⟨pU (n:=4) (by decide),by decide,fr4,λR k=>by kernel_rfl,λj h=>ld4 j (by omega),bMx⟩
theorem aU1{n:Nat}(h:n<2^53):Wd (fI (n:Int)) n:=pU (by omega)
theorem aHn{a b:Nat}:((a:Nat):Rat)<=(b:Rat)↔a<=b:=by exact_mod_cast Iff.rfl
theorem bU4{a b:Nat}:((a:Nat):Rat)<(b:Rat)↔a<b:=by exact_mod_cast Iff.rfl
theorem bUv{p:Nat}{n:Int}(h1:(2:Rat)^(n-1)<=(p:Rat))(h2:(p:Rat)<(2:Rat)^n)(h0:1<=p):∃j:Nat,n=(j:Int)+1/\2^j<=p/\p<2^(j+1):=by
 have hn:1<=n:=by
  rcases Int.lt_or_le n 1 with h|h;· have:=cY (show n<=0 by omega);rw[show(2:Rat)^(0:Int)=1 by simp]at this;have:((1:Nat):Rat)<=(p:Rat):=aHn.2 h0;grind
  ·exact h
 refine⟨(n-1).toNat,by omega,?_,?_⟩
 ·have e:(2:Rat)^(n-1)=(((2^(n-1).toNat:Nat)):Rat):=by rw[show n-1=(((n-1).toNat:Nat):Int) by omega,Rat.zpow_natCast];simp
  rw[e]at h1;exact aHn.1 h1
 ·have e:(2:Rat)^n=(((2^((n-1).toNat+1):Nat)):Rat):=by rw[show n=((((n-1).toNat+1:Nat)):Int) by omega,Rat.zpow_natCast];simp
  rw[e]at h2;exact bU4.1 h2
section
variable{y b:Nat}
theorem bMw(hy:Dv y b){x p:Nat}(h1:2^b<=p)(h2:p<=1000):∃q:Nat,q<p/\q%2^b=p%2^b/\
  cI P9 0 62 ⟨0,[]⟩ (moE x y 4602678819172646912 (fI (p:Int)) ((b:Int)+1)) ⟨0,[]⟩ .normal (moE x y 4602678819172646912 (fI (q:Int)) ((b:Int)+1)) ⟨0,[]⟩ (λQ a w=>moA.wp P9 Q a w):=by
 have hp:Is (fI (p:Int)) ((p:Nat):Rat):=by have:=(aU1 (n:=p) (by omega)).1;rwa[Rat.intCast_natCast]at this
 have h0:1<=p:=Nat.le_trans Nat.one_le_two_pow h1;obtain⟨w,n,v,g1,g2,g3,g4,g5,g6,g7,g8,g9⟩:=aYo hp (by exact_mod_cast h0);obtain⟨j,rfl,j1,j2⟩:=bUv g5 g6 h0;have jb:b<=j:=by
  rcases Nat.lt_or_ge j b with h|h;· have:=Nat.pow_le_pow_right (show 0<2 by decide) (show j+1<=b by omega);omega
  ·exact h
 have j10:j<10:=by
  rcases Nat.lt_or_ge j 10 with h|h;· exact h
  ·have:=Nat.pow_le_pow_right (show 0<2 by decide) h;omega
 obtain⟨i,rfl⟩:=Nat.exists_eq_add_of_le' jb;have hq:Wd (fI ((2^(i+b):Nat):Int)) ((2^(i+b):Nat):Int):=aU1 (by omega);obtain⟨r,r1,r2⟩:=bJo (aU1 (n:=p) (by omega)) hq (by omega);have hr:r=fI (((p-2^(i+b):Nat)):Int):=by refine bV6 r2 ?_;have:=aU1 (n:=p-2^(i+b)) (by omega);rwa[show(((p-2^(i+b):Nat)):Int)=(p:Int)-((2^(i+b):Nat):Int) by omega]at this⊢
 refine⟨p-2^(i+b),by have:=Nat.one_le_two_pow (n:=i+b);omega,?_,?_⟩
 ·have e:2^(i+b)=2^b*2^i:=by rw[Nat.add_comm,Nat.pow_add]
  have e2:p=(p-2^(i+b))+2^b*2^i:=by omega
  conv=>rhs;rw[e2]
  rw[Nat.add_mul_mod_self_left]
 ·have hge:geF (fI (p:Int)) y=true:=by
   rw[tB hp hy.is.1];have:(((2^b:Nat):Int):Rat)=((2^b:Nat):Rat):=by simp
   rw[this];exact D7 (aHn.2 h1)
  have hlt:ltF w 4602678819172646912=false:=by rw[zZ g1 aEj];exact E7 (by grind)
  exact bK (C:=moR) (H0:=⟨0,[]⟩) (e:=moE x y 4602678819172646912 (fI (p:Int)) ((b:Int)+1)) (H:=⟨0,[]⟩) (n:=60) (ts:=[7,5,6,0,1]) (bo:=[]) (bs:=[]) (A:=[]) (B:=[]) (D:=[]) (e1:=moE x y 4602678819172646912 (fI ((p-2^(i+b):Nat):Int)) ((b:Int)+1)) (O1:=[]) aZr aO aSp
   (by unfold moR;refine(aSq aG kO n2K n1K mR pB _ x y _ _ _ _).trans ?_;rw[hge,T7,g9,hlt,F7,aI,qH (by omega) (by omega),show((i+b:Nat):Int)+1-((b:Int)+1)=(i:Int) by omega,hy.ld i j10,aK r1,hr]) rfl rfl rfl rfl rfl rfl rfl
theorem aZs(hy:Dv y b){x p:Nat}(h1:p<2^b):cI P9 0 62 ⟨0,[]⟩ (moE x y 4602678819172646912 (fI (p:Int)) ((b:Int)+1)) ⟨0,[]⟩ (.exit 0) (moE x y 4602678819172646912 (fI (p:Int)) ((b:Int)+1)) ⟨0,[]⟩ (λQ a w=>moA.wp P9 Q a w):=by
 have hb:2^b<=8:=by have:=Nat.pow_le_pow_right (show 0<2 by decide) hy.le.2;omega
 have hp:Is (fI (p:Int)) ((p:Nat):Rat):=by have:=(aU1 (n:=p) (by omega)).1;rwa[Rat.intCast_natCast]at this
 have hge:geF (fI (p:Int)) y=false:=by
  rw[tB hp hy.is.1];have:(((2^b:Nat):Int):Rat)=((2^b:Nat):Rat):=by simp
  rw[this];exact E7 (by rw[aHn];omega)
 exact bK (C:=moR) (H0:=⟨0,[]⟩) (e:=moE x y 4602678819172646912 (fI (p:Int)) ((b:Int)+1)) (H:=⟨0,[]⟩) (n:=60) (ts:=[7,5,6,0,1]) (bo:=[]) (bs:=[]) (A:=[]) (B:=[]) (D:=[]) (e1:=moE x y 4602678819172646912 (fI (p:Int)) ((b:Int)+1)) (O1:=[]) aZr aO aSp
  (by unfold moR;refine(aSq aG kO n2K n1K mR pB _ x y _ _ _ _).trans ?_;rw[hge,F7]) rfl rfl rfl rfl rfl rfl rfl
theorem aZt(hy:Dv y b){x:Nat}:∀(m p:Nat),p<=m->p<=1000->dH P9 0 62 ⟨0,[]⟩ moA (moE x y 4602678819172646912 (fI (p:Int)) ((b:Int)+1)) ⟨0,[]⟩ (.exit 0) (moE x y 4602678819172646912 (fI ((p%2^b:Nat):Int)) ((b:Int)+1)) ⟨0,[]⟩:=by
 intro m;induction m with
 |zero=>intro p hm h2;have hp:p<2^b:=Nat.lt_of_le_of_lt hm (Nat.one_le_two_pow);rw[Nat.mod_eq_of_lt hp];exact gY (by intro h;cases h) (aZs hy hp)
 |succ m ih=>
  intro p hm h2;rcases Nat.lt_or_ge p (2^b) with h|h;· rw[Nat.mod_eq_of_lt h];exact gY (by intro h;cases h) (aZs hy h)
  ·obtain⟨q,q1,q2,q3⟩:=bMw (x:=x) hy h h2;have:=ih q (by omega) (by omega);rw[q2]at this;exact aDx q3 this
theorem aQu(q:Nat->Option Nat)(h:∀j,q j=none)(H:AH):Within q ⟨0,[]⟩ H where
 obj:=λj o h=>by simp at h
 lt:=λj o h=>by simp at h
 one:=λj o o' h1 h2=>by simp at h1
 inj:=λj j' k h1 h2=>by rw[h j]at h1;cases h1
 dom:=λj k h1=>by rw[h j]at h1;cases h1
theorem aD.any{P:Program}{f:FuncId}{args:List Value}{v:Value}(h:aD P f args ⟨0,[]⟩ v)(ha:kZ 0 args=true)(H:AH):aD P f args H v:=
 tS (aQu (λ_=>none) (λ_=>rfl) H) (bQ ha) h
theorem aVj(hy:Dv y b){p:Nat}(hp:p<=1000):aD P9 56 [.float .f64 (fI (p:Int)),.float .f64 y] ⟨0,[]⟩ (.float .f64 (fI ((p%2^b:Nat):Int))):=by
 have hB:=@gG _ _ _ _ _ _ _ _ _ (aZt (x:=fI (p:Int)) hy p p (Nat.le_refl _) hp);have hi:Is (fI (p:Int)) ((p:Nat):Rat):=by have:=(aU1 (n:=p) (by omega)).1;rwa[Rat.intCast_natCast]at this
 have h0:(0:Rat)<=(p:Rat):=by exact_mod_cast Nat.zero_le p
 have hlt:ltF (fI (p:Int)) 0=false:=by rw[zZ hi hJ];exact E7 (by grind)
 have ht:=hy.top aG kO n2K n1K mR pB (told P9 (.exit 0) (moE (fI (p:Int)) y 4602678819172646912 (fI ((p%2^b:Nat):Int)) ((b:Int)+1)) ⟨0,[]⟩) (Ex×Env×dF) (fI (p:Int)) λex e O=>some (ex,e,O)
 unfold n2K n1K at ht;simp only[oU hi,lX hi,lX hy.is.1,hy.ab,hy.fr,hlt,F7]at ht;have ht:=ht.trans (gT @hB _ _);unfold moZ at ht;rw[cX]at ht;have ht:=ht.trans (bTw aG kO _ _ mR pB _ _ _ _ _ _ _ _);rw[hlt,F7]at ht;exact fK (C:=moR) (args:=[.float .f64 (fI (p:Int)),.float .f64 y]) (H:=⟨0,[]⟩) aZr aO Tryz.func56 bMv (λa _=>dJ (gN _ _ _ _ a)) (kK rfl) ht (.inr rfl) (vs:=[.float .f64 (fI ((p%2^b:Nat):Int))]) rfl rfl
theorem aSr(hy:Dv y b){p:Nat}(hp:p<=1000):aD P9 20 [.float .f64 (fI (p:Int)),.float .f64 y] ⟨0,[]⟩ (.float .f64 (fI ((p%2^b:Nat):Int))):=by have ht:=bTz aG (Ex×Env×dF) (fI (p:Int)) (λex e O=>some (ex,e,O)) (fJ P9 56 (.float .f64 (fI ((p%2^b:Nat):Int)))) (.float .f64 (fI ((p%2^b:Nat):Int))) [] y;rw[cO (aVj hy hp)]at ht;exact fK (C:=uC aG [] [(56,bF (.float .f64 (fI ((p%2^b:Nat):Int))) (fJ P9 56 (.float .f64 (fI ((p%2^b:Nat):Int)))))] []) (args:=[.float .f64 (fI (p:Int)),.float .f64 y]) (H:=⟨0,[]⟩) (aC1 .nil (.cons (gL rfl) cFn .nil) .nil) aO (L:=noL) Tryz.func20 bE0 (λa _=>qU) (kK rfl) ht (.inr rfl) (vs:=[.float .f64 (fI ((p%2^b:Nat):Int))]) rfl rfl
end
theorem aLc{x y r:Nat}(h:fbF .mul x y=some r):Extern.MathAsm.mul x y=pure r:=by rw[tV]at h;have h':k9.f64.format.mul x y=some r:=h;simp[Extern.MathAsm.mul,Extern.MathAsm.arith,Op.floatArith,h']
theorem aWw{x y r:Nat}(h:fbF .add x y=some r):Extern.MathAsm.add x y=pure r:=by rw[tV]at h;have h':k9.f64.format.add x y=some r:=h;simp[Extern.MathAsm.add,Extern.MathAsm.arith,Op.floatArith,h']
theorem aWx{x y r:Nat}(h:fbF .quo x y=some r):Extern.MathAsm.div x y=pure r:=by rw[tV]at h;have h':k9.f64.format.div x y=some r:=h;simp[Extern.MathAsm.div,Extern.MathAsm.arith,Op.floatArith,h']
theorem aL9{R:Type}{big small:Nat}{k:Nat->Option R}{r:R}(h:bQk big small k=some r):∃x,k x=some r/\
  (do
    let q <-Extern.MathAsm.div small big
    let q <-Extern.MathAsm.add (<-Extern.MathAsm.mul q q) Extern.MathAsm.one
    let .float _ q <- Extern.MathSqrt.sqrt #[.float .f64 q] | stuck "sqrt: a float expected"
    pure (.float .f64 (<-Extern.MathAsm.mul q big)):Sem Value)=pure (.float .f64 x):=by
 unfold bQk at h;obtain⟨a,h1,h⟩:=lG h;obtain⟨b,h2,h⟩:=lG h;obtain⟨c,h3,h⟩:=lG h;obtain⟨d,h4,h⟩:=lG h;obtain⟨x,h5,h⟩:=lG h;refine⟨x,h,?_⟩;have h3':Extern.MathAsm.add b Extern.MathAsm.one=pure c:=aWw h3;have h4':Extern.MathSqrt.sqrt #[.float .f64 c]=pure (.float .f64 d):=by show(match Ieee.double.sqrt c with|some r=>_|none=>_)=_;rw[h4]
 simp[aWx h1,aLc h2,h3',h4',aLc h5]
theorem aOt(a b:Nat):Extern.MathHypot.archHypot #[.float .f64 a,.float .f64 b]=(do
  let p:=a%2^63
  let q:=b%2^63
  if p==Extern.MathAsm.posInf||q==Extern.MathAsm.posInf then return .float .f64 Extern.MathAsm.posInf
  if p>Extern.MathAsm.posInf||q>Extern.MathAsm.posInf then return .float .f64 Extern.MathAsm.nan
  if p==0&&q==0 then return .float .f64 0
  let (big,small):=if Extern.MathAsm.lt p q then(q,p) else(p,q)
  let r <-Extern.MathAsm.div small big
  let r <-Extern.MathAsm.add (<-Extern.MathAsm.mul r r) Extern.MathAsm.one
  let .float _ r <- Extern.MathSqrt.sqrt #[.float .f64 r] | stuck "sqrt: a float expected"
  pure (.float .f64 (<-Extern.MathAsm.mul r big)):Sem Value):=rfl
theorem e96:xS P9 96 (bNx aCc):=by
 intro R args k r hr;unfold bNx at hr;split at hr
 ·rename_i a b;unfold aCc at hr;cases hc:(Nat.blt (a%2^63) 9218868437227405312&&Nat.blt (b%2^63) 9218868437227405312) with
  |false=>rw[hc]at hr;cases hr
  |true=>
   rw[hc]at hr;simp only[T7]at hr;simp only[Bool.and_eq_true,Nat.blt_eq]at hc;have p1:(a%2^63==Extern.MathAsm.posInf)=false:=by
    have:a%2^63≠9218868437227405312:=by omega
    simpa[Extern.MathAsm.posInf] using this
   have p2:(b%2^63==Extern.MathAsm.posInf)=false:=by
    have:b%2^63≠9218868437227405312:=by omega
    simpa[Extern.MathAsm.posInf] using this
   have p3:¬a%2^63>Extern.MathAsm.posInf:=by show ¬a%2^63>9218868437227405312;omega
   have p4:¬b%2^63>Extern.MathAsm.posInf:=by show ¬b%2^63>9218868437227405312;omega
   have run:∀x,Extern.MathHypot.archHypot #[.float .f64 a,.float .f64 b]=pure (.float .f64 x)->k (.float .f64 x)=some r->
     kZ 0 [Value.float .f64 a,Value.float .f64 b]=true/\∃v,k v=some r/\flat v=true/\∀w,(callFunc 96 ⟨[Value.float .f64 a,Value.float .f64 b]⟩).run P9 w=.ok (.value v) w:=λx hx hk=>
    ⟨rfl,_,hk,rfl,λw=>aFn Tryz.func96 (by kernel_rfl) (by kernel_rfl) (show Extern.find Tryz.f96=some Extern.MathHypot.archHypot by kernel_rfl) (by kernel_rfl) hx w⟩
   cases hz:(N9 (a%2^63) 0&&N9 (b%2^63) 0) with
   |true=>rw[hz]at hr;simp only[Bool.and_eq_true,Nat.beq_eq]at hz;refine run 0 ?_ hr;rw[aOt];simp only[p1,p2,p3,p4,Bool.or_false,Bool.false_eq_true,if_false,or_false,decide_false];simp[hz.1,hz.2]
   |false=>
    rw[hz]at hr;have hz':(a%2^63==0&&b%2^63==0)=false:=by rw[<-hz];simp[nb];rfl
    have hlt:Extern.MathAsm.lt (a%2^63) (b%2^63)=ltF (a%2^63) (b%2^63):=by unfold ltF;rw[wK];rfl
    cases hl:ltF (a%2^63) (b%2^63) with
    |true=>rw[hl]at hr;obtain⟨x,hk,hx⟩:=aL9 hr;refine run x (Eq.trans ?_ hx) hk;rw[aOt];simp only[p1,p2,p3,p4,hz',hlt,hl];simp
    |false=>rw[hl]at hr;obtain⟨x,hk,hx⟩:=aL9 hr;refine run x (Eq.trans ?_ hx) hk;rw[aOt];simp only[p1,p2,p3,p4,hz',hlt,hl];simp
 ·cases hr
theorem k59:cH P9 59 (bNx aCc):=rR (l:=[]) (es:=[(96,bNx aCc)]) (n:=60) aO .nil
 (λf g h=>by
  unfold tab at h;cases hb:N9 96 f with
  |true=>rw[hb]at h;cases h;rw[<-gO hb];exact e96
  |false=>rw[hb]at h;cases h)
 λR args k r hr=>by
  unfold bNx at hr;split at hr;· exact⟨rfl,by rw[bW3];exact hr⟩
  ·cases hr
theorem h59:Has P9 59:=⟨Tryz.f59,_,Tryz.func59,by kernel_rfl,rfl⟩
def sG(b:Nat):Bool:=N9 b 0||N9 b 7
def sH(b:Nat):Bool:=N9 b 0||N9 b 3||N9 b 8
section
variable(L:qR)(fi:Fi)(R:Type)(ge:GEl)(st:St)(ap:Ap)(sg:KSg)(si:KSi)(dv:KDv)(pr:KPr)(ov ng:KCC)(mu:gU)(sc:mO)(fn:KCB)(ga gs:HT)(cs os ls:List Value)(sz n c j i0 k h c1 c2 r x1 x2 y1 y2 xp z1 z2:Nat)(xk pw:Int)(K:Ex->Env->dF->Option R)
theorem aZe:bE (sqC sG fi ge st ap sg si dv pr ov ng mu sc fn []) 60 noL 1 89 sqB (siE n c 3 pw bL h bL k) ⟨4,xb 3 xk x1 x2 y1 y2 xp::abD n c c1 c2 r++[(0,.cells cs sz)]⟩ (aU siT [3,2,1,6] K) =
  bif decide ((k:Int)<n) then
   bif decide (0<=(k:Int))&&decide ((k:Int)<n)&&true then
    ge R cs (0+k*4) λkind a1 a2 s1 s2 p=>wiX sg si kind a1 a2 s1 s2 p c1 c2 r
     (fi R (K9.i64.wrap (k+1)) λi=>K .normal (siE n c 3 pw bL h bL i) (xb 3 xk x1 x2 y1 y2 xp::abD n c c1 c2 r))
     (dv R kind a1 a2 s1 s2 p x1 x2 pw λu1 u2=>fi R (K9.i64.wrap (k+1)) λi=>K .normal (siE n c 3 pw bL h (sl3 6 1) i) (xb 3 xk x1 x2 y1 y2 xp::abD n c c1 c2 r++[(6,.cells [.complex .f64 u1 u2] 1)]))
   else none
  else K (.exit 2) (siE n c 3 pw bL h bL k) (xb 3 xk x1 x2 y1 y2 xp::abD n c c1 c2 r):=by kernel_rfl
theorem bMg:bE (sqC sG fi ge st ap sg si dv pr ov ng mu sc fn []) 60 noL 1 89 sqB (siE n c 3 pw bL h (sl3 7 j) k) ⟨8,xb 3 xk x1 x2 y1 y2 xp::abD n c c1 c2 r++[(7,.cells os 1),(0,.cells cs sz)]⟩ (aU siT [3,2,1,10] K) =
  bif decide ((k:Int)<n) then
   bif decide (0<=(k:Int))&&decide ((k:Int)<n)&&true then
    ge R cs (0+k*4) λkind a1 a2 s1 s2 p=>wiX sg si kind a1 a2 s1 s2 p c1 c2 r
     (fi R (K9.i64.wrap (k+1)) λi=>K .normal (siE n c 3 pw bL h (sl3 7 j) i) (xb 3 xk x1 x2 y1 y2 xp::abD n c c1 c2 r))
     (dv R kind a1 a2 s1 s2 p x1 x2 pw λu1 u2=>ap R 82 os j j [.complex .f64 u1 u2] 0 1 λos=>fi R (K9.i64.wrap (k+1)) λi=>K .normal (siE n c 3 pw bL h (sl3 10 (j+1)) i) (xb 3 xk x1 x2 y1 y2 xp::abD n c c1 c2 r++[(10,.cells os 1)]))
   else none
  else K (.exit 2) (siE n c 3 pw bL h (sl3 7 j) k) (xb 3 xk x1 x2 y1 y2 xp::abD n c c1 c2 r):=by kernel_rfl
theorem aZc:bE (sqC sG fi ge st ap sg si dv pr ov ng mu sc fn []) 60 noL 1 89 sqB (siE n c 3 pw bL h (sl3 7 j) k) ⟨8,xb 3 xk x1 x2 y1 y2 xp::abD n c c1 c2 r++[(7,.cells os 1),(0,.cells cs sz)]⟩ (aU siT [3,2,1,7] K) =
  bif decide ((k:Int)<n) then
   bif decide (0<=(k:Int))&&decide ((k:Int)<n)&&true then
    ge R cs (0+k*4) λkind a1 a2 s1 s2 p=>wiX sg si kind a1 a2 s1 s2 p c1 c2 r
     (fi R (K9.i64.wrap (k+1)) λi=>K .normal (siE n c 3 pw bL h (sl3 7 j) i) (xb 3 xk x1 x2 y1 y2 xp::abD n c c1 c2 r++[(7,.cells os 1)]))
     (dv R kind a1 a2 s1 s2 p x1 x2 pw λu1 u2=>ap R 82 os j j [.complex .f64 u1 u2] 0 1 λos=>fi R (K9.i64.wrap (k+1)) λi=>K .normal (siE n c 3 pw bL h (sl3 10 (j+1)) i) (xb 3 xk x1 x2 y1 y2 xp::abD n c c1 c2 r))
   else none
  else K (.exit 2) (siE n c 3 pw bL h (sl3 7 j) k) (xb 3 xk x1 x2 y1 y2 xp::abD n c c1 c2 r++[(7,.cells os 1)]):=by kernel_rfl
theorem cAm:bE (sqC sG fi ge st ap sg si dv pr ov ng mu sc fn [(44,bF (.complex .f64 z1 z2) gs)]) 60 (eS siT [3,2,1,0] L) 1 89 sqA (soE n c bL h) ⟨3,abD n c c1 c2 r++[(0,.cells cs sz)]⟩ (aU soT [5,2,1] K) =
  bif decide ((h:Int)<n) then
   bif decide (0<=(h:Int))&&decide ((h:Int)<n)&&true then
    ge R cs (0+h*4) λkind a1 a2 s1 s2 p=>wiX sg si kind a1 a2 s1 s2 p c1 c2 r
     ((J9 .f64 p .i64).bind λm=>fi R m λm=>L R 1 89 sqB (siE n c 3 m bL h bL 0) ⟨4,xb 3 kind a1 a2 s1 s2 p::abD n c c1 c2 r++[(0,.cells cs sz)]⟩
      (fS 2 (jP (λen H=>bE (sqC sG fi ge st ap sg si dv pr ov ng mu sc fn [(44,bF (.complex .f64 z1 z2) gs)]) 60 (eS siT [3,2,1,0] L) 1 89 (lJ 5 sqX) en H (fS 1 (jP (λen H=>bE (sqC sG fi ge st ap sg si dv pr ov ng mu sc fn [(44,bF (.complex .f64 z1 z2) gs)]) 60 (eS siT [3,2,1,0] L) 1 89 (lJ 3 sqA) en H (aU soT [5,2,1] K)) (aU soT [5,2,1] K)))) (fS 1 (jP (λen H=>bE (sqC sG fi ge st ap sg si dv pr ov ng mu sc fn [(44,bF (.complex .f64 z1 z2) gs)]) 60 (eS siT [3,2,1,0] L) 1 89 (lJ 3 sqA) en H (aU soT [5,2,1] K)) (aU soT [5,2,1] K))))))
     (fi R (K9.i64.wrap (h+1)) λi=>K .normal (soE n c bL i) (abD n c c1 c2 r))
   else none
  else K (.exit 0) (soE n c bL h) (abD n c c1 c2 r):=by kernel_rfl
theorem cAt:bE (sqC sG fi ge st ap sg si dv pr ov ng mu sc fn [(44,bF (.complex .f64 z1 z2) gs)]) 60 L 1 89 (lJ 5 sqX) (siE n c 3 pw bL h bL k) ⟨4,xb 3 xk x1 x2 y1 y2 xp::abD n c c1 c2 r++[(0,.cells cs sz)]⟩ (fS 1 (jP (λen H=>bE (sqC sG fi ge st ap sg si dv pr ov ng mu sc fn [(44,bF (.complex .f64 z1 z2) gs)]) 60 L 1 89 (lJ 3 sqA) en H (aU soT [5,2,1] K)) (aU soT [5,2,1] K))) =
  bif xk==2 then ov R y1 y2 λu1 u2=>gs R [bL] ⟨4,xb 3 xk x1 x2 y1 y2 xp::abD n c c1 c2 r++[(0,.cells cs sz)]⟩ (mu R u1 u2 z1 z2 λq1 q2=>fi R (K9.i64.wrap (h+1)) λi=>K .normal (soE n c (sl3 5 1) i) ((5,.cells [.complex .f64 q1 q2] 1)::abD n c c1 c2 r))
  else ng R y1 y2 λu1 u2=>gs R [bL] ⟨4,xb 3 xk x1 x2 y1 y2 xp::abD n c c1 c2 r++[(0,.cells cs sz)]⟩ (mu R u1 u2 z1 z2 λv1 v2=>fi R (K9.i64.wrap (pw-1)) λm=>pr R 1 m λw=>aM (fbF .quo 4607182418800017408 w) λw=>sc R v1 v2 w λq1 q2=>fi R (K9.i64.wrap (h+1)) λi=>K .normal (soE n c (sl3 5 1) i) ((5,.cells [.complex .f64 q1 q2] 1)::abD n c c1 c2 r)):=by kernel_rfl
theorem cAn:bE (sqC sG fi ge st ap sg si dv pr ov ng mu sc fn [(44,bF (.complex .f64 z1 z2) gs)]) 60 (eS siT [3,2,1,0] L) 1 89 sqA (soE n c bL h) ⟨3,abD n c c1 c2 r++[(0,.cells cs sz)]⟩ (aU soT [9,2,1] K) =
  bif decide ((h:Int)<n) then
   bif decide (0<=(h:Int))&&decide ((h:Int)<n)&&true then
    ge R cs (0+h*4) λkind a1 a2 s1 s2 p=>wiX sg si kind a1 a2 s1 s2 p c1 c2 r
     ((J9 .f64 p .i64).bind λm=>fi R m λm=>L R 1 89 sqB (siE n c 3 m bL h bL 0) ⟨4,xb 3 kind a1 a2 s1 s2 p::abD n c c1 c2 r++[(0,.cells cs sz)]⟩
      (fS 2 (jP (λen H=>bE (sqC sG fi ge st ap sg si dv pr ov ng mu sc fn [(44,bF (.complex .f64 z1 z2) gs)]) 60 (eS siT [3,2,1,0] L) 1 89 (lJ 5 sqX) en H (fS 1 (jP (λen H=>bE (sqC sG fi ge st ap sg si dv pr ov ng mu sc fn [(44,bF (.complex .f64 z1 z2) gs)]) 60 (eS siT [3,2,1,0] L) 1 89 (lJ 3 sqA) en H (aU soT [9,2,1] K)) (aU soT [9,2,1] K)))) (fS 1 (jP (λen H=>bE (sqC sG fi ge st ap sg si dv pr ov ng mu sc fn [(44,bF (.complex .f64 z1 z2) gs)]) 60 (eS siT [3,2,1,0] L) 1 89 (lJ 3 sqA) en H (aU soT [9,2,1] K)) (aU soT [9,2,1] K))))))
     (fi R (K9.i64.wrap (h+1)) λi=>K .normal (soE n c bL i) (abD n c c1 c2 r))
   else none
  else K (.exit 0) (soE n c bL h) (abD n c c1 c2 r):=by kernel_rfl
theorem cAu:bE (sqC sG fi ge st ap sg si dv pr ov ng mu sc fn [(44,bF (.complex .f64 z1 z2) gs)]) 60 L 1 89 (lJ 5 sqX) (siE n c 3 pw bL h (sl3 7 j) k) ⟨8,xb 3 xk x1 x2 y1 y2 xp::abD n c c1 c2 r++[(7,.cells os 1),(0,.cells cs sz)]⟩ (fS 1 (jP (λen H=>bE (sqC sG fi ge st ap sg si dv pr ov ng mu sc fn [(44,bF (.complex .f64 z1 z2) gs)]) 60 L 1 89 (lJ 3 sqA) en H (aU soT [9,2,1] K)) (aU soT [9,2,1] K))) =
  bif xk==2 then ov R y1 y2 λu1 u2=>gs R [(sl3 7 j)] ⟨8,xb 3 xk x1 x2 y1 y2 xp::abD n c c1 c2 r++[(7,.cells os 1),(0,.cells cs sz)]⟩ (mu R u1 u2 z1 z2 λq1 q2=>fi R (K9.i64.wrap (h+1)) λi=>K .normal (soE n c (sl3 9 1) i) ((9,.cells [.complex .f64 q1 q2] 1)::abD n c c1 c2 r))
  else ng R y1 y2 λu1 u2=>gs R [(sl3 7 j)] ⟨8,xb 3 xk x1 x2 y1 y2 xp::abD n c c1 c2 r++[(7,.cells os 1),(0,.cells cs sz)]⟩ (mu R u1 u2 z1 z2 λv1 v2=>fi R (K9.i64.wrap (pw-1)) λm=>pr R 1 m λw=>aM (fbF .quo 4607182418800017408 w) λw=>sc R v1 v2 w λq1 q2=>fi R (K9.i64.wrap (h+1)) λi=>K .normal (soE n c (sl3 9 1) i) ((9,.cells [.complex .f64 q1 q2] 1)::abD n c c1 c2 r)):=by kernel_rfl
theorem aZf:bE (sqC sH fi ge st ap sg si dv pr ov ng mu sc fn []) 60 noL 1 89 sqB (siE n c 4 pw (sl3 3 i0) h bL k) ⟨5,xb 4 xk x1 x2 y1 y2 xp::(3,.cells ls 1)::abD n c c1 c2 r++[(0,.cells cs sz)]⟩ (aU siT [4,3,2,1,7] K) =
  bif decide ((k:Int)<n) then
   bif decide (0<=(k:Int))&&decide ((k:Int)<n)&&true then
    ge R cs (0+k*4) λkind a1 a2 s1 s2 p=>wiX sg si kind a1 a2 s1 s2 p c1 c2 r
     (fi R (K9.i64.wrap (k+1)) λi=>K .normal (siE n c 4 pw (sl3 3 i0) h bL i) (xb 4 xk x1 x2 y1 y2 xp::(3,.cells ls 1)::abD n c c1 c2 r))
     (dv R kind a1 a2 s1 s2 p x1 x2 pw λu1 u2=>fi R (K9.i64.wrap (k+1)) λi=>K .normal (siE n c 4 pw (sl3 3 i0) h (sl3 7 1) i) (xb 4 xk x1 x2 y1 y2 xp::(3,.cells ls 1)::abD n c c1 c2 r++[(7,.cells [.complex .f64 u1 u2] 1)]))
   else none
  else K (.exit 2) (siE n c 4 pw (sl3 3 i0) h bL k) (xb 4 xk x1 x2 y1 y2 xp::(3,.cells ls 1)::abD n c c1 c2 r):=by kernel_rfl
theorem bMh:bE (sqC sH fi ge st ap sg si dv pr ov ng mu sc fn []) 60 noL 1 89 sqB (siE n c 4 pw (sl3 3 i0) h (sl3 8 j) k) ⟨9,xb 4 xk x1 x2 y1 y2 xp::(3,.cells ls 1)::abD n c c1 c2 r++[(8,.cells os 1),(0,.cells cs sz)]⟩ (aU siT [4,3,2,1,11] K) =
  bif decide ((k:Int)<n) then
   bif decide (0<=(k:Int))&&decide ((k:Int)<n)&&true then
    ge R cs (0+k*4) λkind a1 a2 s1 s2 p=>wiX sg si kind a1 a2 s1 s2 p c1 c2 r
     (fi R (K9.i64.wrap (k+1)) λi=>K .normal (siE n c 4 pw (sl3 3 i0) h (sl3 8 j) i) (xb 4 xk x1 x2 y1 y2 xp::(3,.cells ls 1)::abD n c c1 c2 r))
     (dv R kind a1 a2 s1 s2 p x1 x2 pw λu1 u2=>ap R 82 os j j [.complex .f64 u1 u2] 0 1 λos=>fi R (K9.i64.wrap (k+1)) λi=>K .normal (siE n c 4 pw (sl3 3 i0) h (sl3 11 (j+1)) i) (xb 4 xk x1 x2 y1 y2 xp::(3,.cells ls 1)::abD n c c1 c2 r++[(11,.cells os 1)]))
   else none
  else K (.exit 2) (siE n c 4 pw (sl3 3 i0) h (sl3 8 j) k) (xb 4 xk x1 x2 y1 y2 xp::(3,.cells ls 1)::abD n c c1 c2 r):=by kernel_rfl
theorem aZd:bE (sqC sH fi ge st ap sg si dv pr ov ng mu sc fn []) 60 noL 1 89 sqB (siE n c 4 pw (sl3 3 i0) h (sl3 8 j) k) ⟨9,xb 4 xk x1 x2 y1 y2 xp::(3,.cells ls 1)::abD n c c1 c2 r++[(8,.cells os 1),(0,.cells cs sz)]⟩ (aU siT [4,3,2,1,8] K) =
  bif decide ((k:Int)<n) then
   bif decide (0<=(k:Int))&&decide ((k:Int)<n)&&true then
    ge R cs (0+k*4) λkind a1 a2 s1 s2 p=>wiX sg si kind a1 a2 s1 s2 p c1 c2 r
     (fi R (K9.i64.wrap (k+1)) λi=>K .normal (siE n c 4 pw (sl3 3 i0) h (sl3 8 j) i) (xb 4 xk x1 x2 y1 y2 xp::(3,.cells ls 1)::abD n c c1 c2 r++[(8,.cells os 1)]))
     (dv R kind a1 a2 s1 s2 p x1 x2 pw λu1 u2=>ap R 82 os j j [.complex .f64 u1 u2] 0 1 λos=>fi R (K9.i64.wrap (k+1)) λi=>K .normal (siE n c 4 pw (sl3 3 i0) h (sl3 11 (j+1)) i) (xb 4 xk x1 x2 y1 y2 xp::(3,.cells ls 1)::abD n c c1 c2 r))
   else none
  else K (.exit 2) (siE n c 4 pw (sl3 3 i0) h (sl3 8 j) k) (xb 4 xk x1 x2 y1 y2 xp::(3,.cells ls 1)::abD n c c1 c2 r++[(8,.cells os 1)]):=by kernel_rfl
theorem cAo:bE (sqC sH fi ge st ap sg si dv pr ov ng mu sc fn [(44,bF (.complex .f64 z1 z2) gs)]) 60 (eS siT [4,3,2,1,0] L) 1 89 sqA (soE n c (sl3 3 i0) h) ⟨4,(3,.cells ls 1)::abD n c c1 c2 r++[(0,.cells cs sz)]⟩ (aU soT [6,2,1] K) =
  bif decide ((h:Int)<n) then
   bif decide (0<=(h:Int))&&decide ((h:Int)<n)&&true then
    ge R cs (0+h*4) λkind a1 a2 s1 s2 p=>wiX sg si kind a1 a2 s1 s2 p c1 c2 r
     ((J9 .f64 p .i64).bind λm=>fi R m λm=>L R 1 89 sqB (siE n c 4 m (sl3 3 i0) h bL 0) ⟨5,xb 4 kind a1 a2 s1 s2 p::(3,.cells ls 1)::abD n c c1 c2 r++[(0,.cells cs sz)]⟩
      (fS 2 (jP (λen H=>bE (sqC sH fi ge st ap sg si dv pr ov ng mu sc fn [(44,bF (.complex .f64 z1 z2) gs)]) 60 (eS siT [4,3,2,1,0] L) 1 89 (lJ 5 sqX) en H (fS 1 (jP (λen H=>bE (sqC sH fi ge st ap sg si dv pr ov ng mu sc fn [(44,bF (.complex .f64 z1 z2) gs)]) 60 (eS siT [4,3,2,1,0] L) 1 89 (lJ 3 sqA) en H (aU soT [6,2,1] K)) (aU soT [6,2,1] K)))) (fS 1 (jP (λen H=>bE (sqC sH fi ge st ap sg si dv pr ov ng mu sc fn [(44,bF (.complex .f64 z1 z2) gs)]) 60 (eS siT [4,3,2,1,0] L) 1 89 (lJ 3 sqA) en H (aU soT [6,2,1] K)) (aU soT [6,2,1] K))))))
     (fi R (K9.i64.wrap (h+1)) λi=>K .normal (soE n c (sl3 3 i0) i) (abD n c c1 c2 r))
   else none
  else K (.exit 0) (soE n c (sl3 3 i0) h) (abD n c c1 c2 r):=by kernel_rfl
theorem cAv:bE (sqC sH fi ge st ap sg si dv pr ov ng mu sc fn [(44,bF (.complex .f64 z1 z2) gs)]) 60 L 1 89 (lJ 5 sqX) (siE n c 4 pw (sl3 3 i0) h bL k) ⟨5,xb 4 xk x1 x2 y1 y2 xp::(3,.cells ls 1)::abD n c c1 c2 r++[(0,.cells cs sz)]⟩ (fS 1 (jP (λen H=>bE (sqC sH fi ge st ap sg si dv pr ov ng mu sc fn [(44,bF (.complex .f64 z1 z2) gs)]) 60 L 1 89 (lJ 3 sqA) en H (aU soT [6,2,1] K)) (aU soT [6,2,1] K))) =
  bif xk==2 then ov R y1 y2 λu1 u2=>gs R [bL] ⟨5,xb 4 xk x1 x2 y1 y2 xp::(3,.cells ls 1)::abD n c c1 c2 r++[(0,.cells cs sz)]⟩ (mu R u1 u2 z1 z2 λq1 q2=>ap R 82 ls i0 i0 [.complex .f64 q1 q2] 0 1 λls=>fi R (K9.i64.wrap (h+1)) λi=>K .normal (soE n c (sl3 6 (i0+1)) i) ((6,.cells ls 1)::abD n c c1 c2 r))
  else ng R y1 y2 λu1 u2=>gs R [bL] ⟨5,xb 4 xk x1 x2 y1 y2 xp::(3,.cells ls 1)::abD n c c1 c2 r++[(0,.cells cs sz)]⟩ (mu R u1 u2 z1 z2 λv1 v2=>fi R (K9.i64.wrap (pw-1)) λm=>pr R 1 m λw=>aM (fbF .quo 4607182418800017408 w) λw=>sc R v1 v2 w λq1 q2=>ap R 82 ls i0 i0 [.complex .f64 q1 q2] 0 1 λls=>fi R (K9.i64.wrap (h+1)) λi=>K .normal (soE n c (sl3 6 (i0+1)) i) ((6,.cells ls 1)::abD n c c1 c2 r)):=by kernel_rfl
theorem cAp:bE (sqC sH fi ge st ap sg si dv pr ov ng mu sc fn [(44,bF (.complex .f64 z1 z2) gs)]) 60 (eS siT [4,3,2,1,0] L) 1 89 sqA (soE n c (sl3 3 i0) h) ⟨4,(3,.cells ls 1)::abD n c c1 c2 r++[(0,.cells cs sz)]⟩ (aU soT [10,2,1] K) =
  bif decide ((h:Int)<n) then
   bif decide (0<=(h:Int))&&decide ((h:Int)<n)&&true then
    ge R cs (0+h*4) λkind a1 a2 s1 s2 p=>wiX sg si kind a1 a2 s1 s2 p c1 c2 r
     ((J9 .f64 p .i64).bind λm=>fi R m λm=>L R 1 89 sqB (siE n c 4 m (sl3 3 i0) h bL 0) ⟨5,xb 4 kind a1 a2 s1 s2 p::(3,.cells ls 1)::abD n c c1 c2 r++[(0,.cells cs sz)]⟩
      (fS 2 (jP (λen H=>bE (sqC sH fi ge st ap sg si dv pr ov ng mu sc fn [(44,bF (.complex .f64 z1 z2) gs)]) 60 (eS siT [4,3,2,1,0] L) 1 89 (lJ 5 sqX) en H (fS 1 (jP (λen H=>bE (sqC sH fi ge st ap sg si dv pr ov ng mu sc fn [(44,bF (.complex .f64 z1 z2) gs)]) 60 (eS siT [4,3,2,1,0] L) 1 89 (lJ 3 sqA) en H (aU soT [10,2,1] K)) (aU soT [10,2,1] K)))) (fS 1 (jP (λen H=>bE (sqC sH fi ge st ap sg si dv pr ov ng mu sc fn [(44,bF (.complex .f64 z1 z2) gs)]) 60 (eS siT [4,3,2,1,0] L) 1 89 (lJ 3 sqA) en H (aU soT [10,2,1] K)) (aU soT [10,2,1] K))))))
     (fi R (K9.i64.wrap (h+1)) λi=>K .normal (soE n c (sl3 3 i0) i) (abD n c c1 c2 r))
   else none
  else K (.exit 0) (soE n c (sl3 3 i0) h) (abD n c c1 c2 r):=by kernel_rfl
theorem cAw:bE (sqC sH fi ge st ap sg si dv pr ov ng mu sc fn [(44,bF (.complex .f64 z1 z2) gs)]) 60 L 1 89 (lJ 5 sqX) (siE n c 4 pw (sl3 3 i0) h (sl3 8 j) k) ⟨9,xb 4 xk x1 x2 y1 y2 xp::(3,.cells ls 1)::abD n c c1 c2 r++[(8,.cells os 1),(0,.cells cs sz)]⟩ (fS 1 (jP (λen H=>bE (sqC sH fi ge st ap sg si dv pr ov ng mu sc fn [(44,bF (.complex .f64 z1 z2) gs)]) 60 L 1 89 (lJ 3 sqA) en H (aU soT [10,2,1] K)) (aU soT [10,2,1] K))) =
  bif xk==2 then ov R y1 y2 λu1 u2=>gs R [(sl3 8 j)] ⟨9,xb 4 xk x1 x2 y1 y2 xp::(3,.cells ls 1)::abD n c c1 c2 r++[(8,.cells os 1),(0,.cells cs sz)]⟩ (mu R u1 u2 z1 z2 λq1 q2=>ap R 82 ls i0 i0 [.complex .f64 q1 q2] 0 1 λls=>fi R (K9.i64.wrap (h+1)) λi=>K .normal (soE n c (sl3 10 (i0+1)) i) ((10,.cells ls 1)::abD n c c1 c2 r))
  else ng R y1 y2 λu1 u2=>gs R [(sl3 8 j)] ⟨9,xb 4 xk x1 x2 y1 y2 xp::(3,.cells ls 1)::abD n c c1 c2 r++[(8,.cells os 1),(0,.cells cs sz)]⟩ (mu R u1 u2 z1 z2 λv1 v2=>fi R (K9.i64.wrap (pw-1)) λm=>pr R 1 m λw=>aM (fbF .quo 4607182418800017408 w) λw=>sc R v1 v2 w λq1 q2=>ap R 82 ls i0 i0 [.complex .f64 q1 q2] 0 1 λls=>fi R (K9.i64.wrap (h+1)) λi=>K .normal (soE n c (sl3 10 (i0+1)) i) ((10,.cells ls 1)::abD n c c1 c2 r)):=by kernel_rfl
end
end Go.Vm
