/- A part; no conditions. -/
import Derived.Test.YtaogignikkjkjaaGreatVmTC7
set_option maxRecDepth 1000000
set_option maxHeartbeats 1000000
set_option linter.all false
open Go.Proofs.Tryz renaming prog->P9
open Go.Vx.Cp renaming of->C9,zero->Z9,mul_assoc->M9,sub_re->S9,sub_im->T9
open Rat renaming le_refl->R9
open Go renaming Value->V9,IntKind->K9,floatOfInt->U9
namespace Go.Vm.Nl
open Go.Proofs Go.Vm
def cW(o n c:Nat):V9:=.agg ⟨[bL]⟩
def abD(m c c1 c2 r:Nat):dF:=[(2,.cells [.complex .f64 c1 c2,.float .f64 r] 0),(1,.cells [bL] 0)]
section
variable(f:Nat)(fi:Fi)(R:Type)(st:St)(ap:Ap)(pl:aH5)(ad mu:gU)(ti of:KCC)(g:bCv)(cs ts:List V9)(sz m c n k c1 c2 r pi:Nat)(K:Ex->Env->dF->Option R)
def bJ2:Option R:=
  bif decide ((k:Int)<n) then
   bH (U9 .f64 (k:Int)) λa=>aM (fbF .mul 4611686018427387904 a) λa=>aM (fbF .mul a pi) λa=>bH (U9 .f64 (n:Int)) λb=>aM (fbF .quo a b) λt=>
   pl R r t λd1 d2=>ad R c1 c2 d1 d2 λz1 z2=>g R (cW 0 m c) z1 z2 ⟨4,abD m c c1 c2 r++[(3,.cells ts 0)]⟩ λx y=>
   of R x y λu1 u2=>ti R d1 d2 λt1 t2=>mu R u1 u2 t1 t2 λq1 q2=>
   bif decide (0<=(k:Int))&&decide ((k:Int)<n)&&true then
    st R ts (0+k*1) [.complex .f64 q1 q2] λts=>fi R (K9.i64.wrap (k+1)) λi=>K .normal (abE f m c n pi i) (abD m c c1 c2 r++[(3,.cells ts 0)])
   else none
  else K (.exit 0) (abE f m c n pi k) (abD m c c1 c2 r++[(3,.cells ts 0)])
theorem tP:bE (abC 50 fi st ap pl ad mu ti of [(61,bFy g)]) 60 noL 1 85 abA (abE 50 m c n pi k) ⟨4,abD m c c1 c2 r++[(3,.cells ts 0)]⟩ (aU [39,38,13,5,4,2,11,3] [2,1,3] K) =
  bJ2 50 fi R st pl ad mu ti of g ts m c n k c1 c2 r pi K:=by kernel_rfl
end
section
variable(f:Nat)(L:qR)(fi:Fi)(R:Type)(st:St)(ap:Ap)(pl:aH5)(ad mu:gU)(ti of:KCC)(g:bCv)(ga gs:HT)(sc:mO)(cs ts:List V9)(sz m c n k c1 c2 r x y:Nat)(K:Option (TypeId×V9)->Env->dF->Option R)
variable(fn:KCB)
theorem aH8:aNa (abT 50 fi st ap pl ad mu ti of sc fn [(85,bF (.int .i64 0) ga),(44,bF (.complex .f64 x y) gs)]) 1 85 (bE (abT 50 fi st ap pl ad mu ti of sc fn [(85,bF (.int .i64 0) ga),(44,bF (.complex .f64 x y) gs)]) 60 (eS [39,38,13,5,4,2,11,3] [2,1,3] L) 1 85) (bHv K) (bB 48) (gX 0 [cW 0 m c,ciV c1 c2 r,.int .i64 n,aWa 50]) ⟨1,[]⟩ =
  ga R [cW 0 m c,ciV c1 c2 r] ⟨3,abD m c c1 c2 r⟩ (bif decide ((n:Int)<1) then K none [(8,.complex .f64 0 0),(9,.int .i64 2)] [] else bif decide ((n:Int)>16384) then K none [(8,.complex .f64 0 0),(9,.int .i64 2)] [] else
   bif decide (0<=(n:Int))&&decide ((n:Int)<=n)&&decide ((n:Int)<=4294967296)&&decide ((16:Int)*n<=281474976710656) then
    L R 1 85 abA (abE 50 m c n 4614256656552045848 0) ⟨4,abD m c c1 c2 r++[(3,.cells (yS n) 0)]⟩
     (fS 0 (jP (λen H=>bE (abT 50 fi st ap pl ad mu ti of sc fn [(85,bF (.int .i64 0) ga),(44,bF (.complex .f64 x y) gs)]) 60 (eS [39,38,13,5,4,2,11,3] [2,1,3] L) 1 85 (lJ 7 (bB 48)) en H (bQf 82 (abV n) (bHv K))) (bQf 82 (abV n) (bHv K))))
   else none):=by kernel_rfl
theorem aH7(pi:Nat):bE (abT 50 fi st ap pl ad mu ti of sc fn [(85,bF (.int .i64 0) ga),(44,bF (.complex .f64 x y) gs)]) 60 L 1 85 (lJ 7 (bB 48)) (abE 50 m c n pi k) ⟨4,abD m c c1 c2 r++[(3,.cells ts 0)]⟩ (bQf 82 (abV n) (bHv K)) =
  gs R [abV n] ⟨4,abD m c c1 c2 r++[(3,.cells ts 0)]⟩ (aM (fbF .mul 4611686018427387904 pi) λa=>bH (U9 .f64 (n:Int)) λb=>aM (fbF .quo a b) λt=>sc R x y t λu v=>fn R u v λt=>
   bif t then K (some (82,abV n)) [(8,.complex .f64 u v),(9,.int .i64 0)] [(3,.cells ts 0)] else K (some (82,abV n)) [(8,.complex .f64 0 0),(9,.int .i64 6)] [(3,.cells ts 0)]):=by kernel_rfl
end
structure Abt(m c c1 c2 r n:Nat)(d z v q:Nat->Nat×Nat):Prop where
 gone:∀k,k<n->∀(R:Type)(K:Nat->Nat->Nat->Nat->Option R),bH2 r c1 c2 n k K=K (d k).1 (d k).2 (z k).1 (z k).2
 spd:∀k,k<n->∀H,aD P9 61 [cW 0 m c,.complex .f64 (z k).1 (z k).2] H (.tuple ⟨[.complex .f64 (v k).1 (v k).2,.int .i64 0]⟩)
 term:∀k,k<n->∀(R:Type)(K:KNN R),(sqK R (v k).1 (v k).2 λu1 u2=>jV R (d k).1 (d k).2 λt1 t2=>dV R u1 u2 t1 t2 K)=K (q k).1 (q k).2
noncomputable def abR(p:Nat×Nat):Cx:=abC 50 aG rSt (rAp P9) vX jJ dV jV sqK [(61,bFy (aQe P9 p))]
theorem aK3(p:Nat×Nat):(abR p).Ok:=
 lS jR (.cons bQo bQj (.cons k84 h84 (.cons k22 h22 (.cons k40 h40 (.cons bXv bXo .nil))))) lY (.cons (aKm p) bZh .nil) .nil (jX .nil)
noncomputable def abS(x y:Nat):Cx:=abT 50 aG rSt (rAp P9) vX jJ dV jV sqK eQ aP [(85,bF (.int .i64 0) (fJ P9 85 (.int .i64 0))),(44,bF (.complex .f64 x y) (fJ P9 44 (.complex .f64 x y)))]
theorem aWo(x y:Nat):(abS x y).Ok:=
 lS jR (.cons bQo bQj (.cons k84 h84 (.cons k22 h22 (.cons k40 h40 (.cons bXv bXo (.cons k39 h39 (.cons k93 h93 .nil))))))) lY (.cons (gL rfl) cDt (.cons (gL rfl) aWd .nil)) .nil (jX .nil)
section
variable{m c c1 c2 r n:Nat}{d z v q:Nat->Nat×Nat}
def abH(m c c1 c2 r n:Nat)(q:Nat->Nat×Nat)(k:Nat):AH:=⟨4,abD m c c1 c2 r++[(3,.cells (fil q n k) 0)]⟩
theorem aN1(h:Abt m c c1 c2 r n d z v q)(hn:n<100000){k:Nat}(hk:k<n):
  cI P9 1 85 (abH m c c1 c2 r n q 0) (abE 50 m c n piW k) (abH m c c1 c2 r n q k) .normal (abE 50 m c n piW (k+1:Nat)) (abH m c c1 c2 r n q (k+1)) (λQ a w=>abA.wp P9 Q a w):=by
 have hs:aD P9 61 [cW 0 m c,.complex .f64 (z k).1 (z k).2] (abH m c c1 c2 r n q k) (.tuple ⟨[.complex .f64 (v k).1 (v k).2,.int .i64 0]⟩):=h.spd k hk _;exact bK (C:=abR (v k)) (H0:=abH m c c1 c2 r n q 0) (e:=abE 50 m c n piW k) (H:=abH m c c1 c2 r n q k) (n:=60) (ts:=[39,38,13,5,4,2,11,3]) (bo:=[2,1,3]) (bs:=[]) (A:=abD m c c1 c2 r++[(3,.cells (fil q n (k+1)) 0)]) (B:=[]) (D:=abD m c c1 c2 r++[(3,.cells (fil q n 0) 0)]) (e1:=abE 50 m c n piW (k+1:Nat)) (O1:=abD m c c1 c2 r++[(3,.cells (fil q n (k+1)) 0)]) (aK3 _) aO zA
  (by
   unfold abR;refine(tP aG _ _ _ _ _ _ _ _ _ (fil q n k) m c n k c1 c2 r piW _).trans ?_;unfold bJ2;rw[D7 (show(k:Int)<n by omega),T7];have g:=h.gone k hk (Ex×Env×dF);unfold bH2 at g;refine(g _).trans ?_;refine(aDi hs).trans ?_;have t:=h.term k hk (Ex×Env×dF);refine(t _).trans ?_;rw[jN,T7];unfold rSt;rw[iJ (by rw[yK q (by omega)];simp;omega),T7,zP q hk];show aG (Ex×Env×dF) _ _=_;rw[aI,fN (by omega)]) rfl
  (by show fD _ ((2,.cells [.complex .f64 c1 c2,.float .f64 r] 0)::(1,.cells [bL] 0)::[(3,.cells (fil q n (k+1)) 0)])=_;simp only[fD,pN,qJ,nH];rw[bQ (qY q n (k+1))];rfl) rfl rfl rfl rfl rfl
theorem aN0(hn:n<100000):
  cI P9 1 85 (abH m c c1 c2 r n q 0) (abE 50 m c n piW n) (abH m c c1 c2 r n q n) (.exit 0) (abE 50 m c n piW n) (abH m c c1 c2 r n q n) (λQ a w=>abA.wp P9 Q a w):=by
 exact bK (C:=abR (0,0)) (H0:=abH m c c1 c2 r n q 0) (e:=abE 50 m c n piW n) (H:=abH m c c1 c2 r n q n) (n:=60) (ts:=[39,38,13,5,4,2,11,3]) (bo:=[2,1,3]) (bs:=[]) (A:=abD m c c1 c2 r++[(3,.cells (fil q n n) 0)]) (B:=[]) (D:=abD m c c1 c2 r++[(3,.cells (fil q n 0) 0)]) (e1:=abE 50 m c n piW n) (O1:=abD m c c1 c2 r++[(3,.cells (fil q n n) 0)]) (aK3 _) aO zA
  (by
   unfold abR;refine(tP aG _ _ _ _ _ _ _ _ _ (fil q n n) m c n n c1 c2 r piW _).trans ?_;unfold bJ2;rw[E7 (by omega),F7]) rfl
  (by show fD _ ((2,.cells [.complex .f64 c1 c2,.float .f64 r] 0)::(1,.cells [bL] 0)::[(3,.cells (fil q n n) 0)])=_;simp only[fD,pN,qJ,nH];rw[bQ (qY q n n)];rfl) rfl rfl rfl rfl rfl
theorem aDp(h:Abt m c c1 c2 r n d z v q)(hn:n<100000):
  dH P9 1 85 (abH m c c1 c2 r n q 0) abA (abE 50 m c n piW (0:Nat)) (abH m c c1 c2 r n q 0) (.exit 0) (abE 50 m c n piW n) (abH m c c1 c2 r n q n):=by
 refine fQ (E:=λk:Nat=>abE 50 m c n piW k) (H:=λk=>abH m c c1 c2 r n q k) n 0 (λk _ hk=>aN1 h hn (by omega)) (gY (by intro h;cases h) ?_);simp only[Nat.zero_add];exact aN0 hn
theorem ab_call{x y u w:Nat}{g:Nat->Nat×Nat}(h:Abt m c c1 c2 r n d z v q)(n1:1<=n)(hn:n<=16384)(ha:∀H,aD P9 85 [cW 0 m c,ciV c1 c2 r] H (.int .i64 0))(hs:aGf (lst q n) g)(hx:g n=(x,y))(hl:∀(R:Type)(K:bW6 R),bXx n x y K=K u w true):
  aD P9 48 [cW 0 m c,ciV c1 c2 r,.int .i64 n,aWa 50] ⟨1,[]⟩ (.tuple ⟨[.complex .f64 u w,.int .i64 0]⟩):=by
 have hB:=@gG _ _ _ _ _ _ _ _ _ (aDp h (by omega));have ha':aD P9 85 [cW 0 m c,ciV c1 c2 r] ⟨3,abD m c c1 c2 r⟩ (.int .i64 0):=ha _;have hsum:aD P9 44 [abV n] (abH m c c1 c2 r n q n) (.complex .f64 x y):=by have:=pS (cs:=bA (lst q n)) (sz:=0) (o:=0) (c:=n) (zs:=lst q n) (f:=g) (mG _) (by rw[qO];omega) hs;rw[qO,hx]at this;refine aD.one (b:=3) this (oO _) ?_ rfl;unfold abH;rw[aEa];simp
 have ht:=aH8 (told P9 (.exit 0) (abE 50 m c n piW n) (abH m c c1 c2 r n q n)) aG V9 rSt (rAp P9) vX jJ dV jV sqK (fJ P9 85 (.int .i64 0)) (fJ P9 44 (.complex .f64 x y)) eQ m c n c1 c2 r x y (λd e O=>aOj P9 1 Tryz.f48.results.toList (λv _=>some v) d e ⟨4,O⟩) aP;rw[cO ha',E7 (show ¬((n:Int)<1) by omega),E7 (show ¬((n:Int)>16384) by omega)]at ht;simp only[F7]at ht;rw[D7 (show(0:Int)<=(n:Int) by omega),D7 (show(n:Int)<=(n:Int) by omega),D7 (show(n:Int)<=4294967296 by omega),D7 (show(16:Int)*n<=281474976710656 by omega)]at ht;rw[show(true&&true&&true&&true)=true from rfl,T7,zQ q n]at ht;have ht:=ht.trans (gT @hB _ _);rw[cX]at ht;have ht:=ht.trans (aH7 _ aG _ _ _ _ _ _ _ _ _ _ _ (fil q n n) m c n n c1 c2 r x y _ _ piW);have ht:=ht.trans (cO hsum);have hl':=hl V9;unfold bXx at hl';have ht:=ht.trans (hl' _);simp only[T7]at ht;have hend:aOj P9 1 Tryz.f48.results.toList (λv _=>some v) (some (82,abV n)) [(8,.complex .f64 u w),(9,.int .i64 0)] ⟨4,[(3,.cells (fil q n n) 0)]⟩=some (.tuple ⟨[.complex .f64 u w,.int .i64 0]⟩):=by unfold aOj;simp only;rw[aXa n1 (Nat.le_of_eq (yK q (Nat.le_refl n)).symm)];rfl
 have ht:=ht.trans hend;exact aL6 (C:=abS x y) (n:=60) (H:=⟨1,[]⟩) (args:=[cW 0 m c,ciV c1 c2 r,.int .i64 n,aWa 50]) (aWo x y) aO Tryz.func48 aWp (L:=eS [39,38,13,5,4,2,11,3] [2,1,3] (told P9 (.exit 0) (abE 50 m c n piW n) (abH m c c1 c2 r n q n))) (λ_ a _=>dJ (gN _ _ _ _ a)) (kK rfl) (λd e H v h=>aRp (nx:=4) h) ht rfl
end
def nf:V9:=.agg ⟨[bL]⟩
theorem bT7(wi:aNo)(fn:KCB)(R:Type)(z1 z2:Nat)(k:KVO R):fC (cx P9 [(92,aP3 wi),(91,sCB fn)]) 60 61 [nf,.complex .f64 z1 z2] k =
  wi R z1 z2 4787326403894837248 λt=>aW t λt=>bif t then fn R 0 0 λt=>aW t λt=>bif t then k (reV 0 0 0) else k (reV 0 0 6) else k (reV 0 0 5):=by kernel_rfl
theorem bT8(wi:aNo)(R:Type)(c1 c2 r:Nat)(k:KVO R):fC (cx P9 [(92,aP3 wi)]) 60 85 [nf,ciV c1 c2 r] k =
  wi R c1 c2 4787326403894837248 λt=>aW t λt=>bif t then(bif geF r 4427038433705197568 then(bif leF r 4787326403894837248 then k (.int .i64 0) else k (.int .i64 5)) else k (.int .i64 5)) else k (.int .i64 5):=by kernel_rfl
theorem bT5(wi:aNo)(fn:KCB)(sc:mO)(R:Type)(c1 c2 r:Nat)(k:KVO R):fC (cx P9 [(92,aP3 wi),(91,sCB fn),(15,tF sc)]) 60 11 [nf,ciV c1 c2 r] k =
  wi R c1 c2 4787326403894837248 λt=>aW t λt=>bif t then(bif geF r 4427038433705197568 then(bif leF r 4787326403894837248 then aM (fbF .mul r 4517110426252607488) λt=>sc R 0 0 4611686018427387904 λx y=>fn R x y λt=>aW t λt=>bif t then k (reV x y 0) else k (reV 0 0 6) else k (reV 0 0 5)) else k (reV 0 0 5)) else k (reV 0 0 5):=by kernel_rfl
theorem cCz(R:Type)(k:KBO R):aP R 0 0 k=k true:=by kernel_rfl
theorem cGg(R:Type)(k:KNN R):eQ R 0 0 4611686018427387904 k=k 0 0:=by kernel_rfl
theorem aI2{C:Cx}(hC:C.Ok)(hmix:C.P.follows .mixedOrders=true){f:FuncId}{args:List V9}{H:AH}{v:V9}(hf:kZ 0 args=true)(e:fC C 60 f args some=some v):aD C.P f args H v:=by obtain⟨u,h1,_,h2⟩:=cD hC hmix e hf;cases h1;intro ρ w args' hi ha;rw[cF.flat_eq ha hf];exact h2 w
section
variable{c1 c2 r:Nat}(hr:bQw c1 c2 r)
include hr
theorem asked_nil(H:AH):aD P9 85 [nf,ciV c1 c2 r] H (.int .i64 0):=
 aI2 (C:=cx P9 [(92,aP3 jQ)]) (aGi (.cons bIb aYu .nil)) aO rfl (by rw[bT8,hr.within,aJ,T7,hr.lo,T7,hr.hi,T7])
theorem bOl{t:Nat}(ht:fbF .mul r 4517110426252607488=some t)(H:AH):aD P9 11 [nf,ciV c1 c2 r] H (reV 0 0 0):=
 aI2 (C:=cx P9 [(92,aP3 jQ),(91,sCB aP),(15,tF eQ)]) (aGi (.cons bIb aYu (.cons k93 h93 (.cons k39 h39 .nil)))) aO rfl (by rw[bT5,hr.within,aJ,T7,hr.lo,T7,hr.hi,T7,pW ht,cGg,cCz,aJ,T7])
end
theorem speed_nil{z1 z2:Nat}(hz:∀(R:Type)(k:KBO R),jQ R z1 z2 4787326403894837248 k=k true)(H:AH):aD P9 61 [nf,.complex .f64 z1 z2] H (reV 0 0 0):=
 aI2 (C:=cx P9 [(92,aP3 jQ),(91,sCB aP)]) (aGi (.cons bIb aYu (.cons k93 h93 .nil))) aO rfl (by rw[bT7,hz,aJ,T7,cCz,aJ,T7])
section
variable(fi:Fi)(R:Type)(st:St)(ap:Ap)(wi:aNo)(gc:HT)(j c1 c2 r x y:Nat)(e:Int)(K:Ex->Env->dF->Option R)
theorem bOj:bE (akC fi st ap wi [(48,bF (.tuple ⟨[.complex .f64 x y,.int .i64 e]⟩) gc)] []) 60 noL 1 14 (bB 13) (gX 0 [nf,ciV c1 c2 r,.int .i64 j]) ⟨1,[]⟩ (aU [6,7] [] K) =
  gc R [nf,ciV c1 c2 r,.int .i64 j,aWa 50] ⟨3,[(2,.cells [.complex .f64 c1 c2,.float .f64 r] 0),(1,.cells [bL] 0)]⟩ (K .ret [(6,.complex .f64 x y),(7,.int .i64 e)] []):=by kernel_rfl
end
theorem up{f:FuncId}{args:List V9}{v:V9}(hf:kZ 0 args=true)(h:aD P9 f args ⟨1,[]⟩ v)(H:AH):aD P9 f args H v:=tS (q:=only 0) aCt (bQ hf) h
section
variable{j c1 c2 r x y:Nat}{e:Int}
theorem square_nil(hc:∀H,aD P9 48 [nf,ciV c1 c2 r,.int .i64 j,aWa 50] H (reV x y e))(H:AH):aD P9 13 [nf,ciV c1 c2 r,.int .i64 j] H (reV x y e):=by
 have h:=bOj aG (Ex×Env×dF) rSt (rAp P9) jQ (fJ P9 48 (reV x y e)) j c1 c2 r x y e λex e O=>some (ex,e,O)
 rw[cO (hc _)]at h;exact up rfl (fK (C:=akR [(48,bF (reV x y e) (fJ P9 48 (reV x y e)))] []) (args:=[nf,ciV c1 c2 r,.int .i64 j]) (H:=⟨1,[]⟩) (aWs (.cons (gL rfl) cDp .nil) .nil) aO (L:=noL) Tryz.func13 bBn (λa _=>qU) (kK rfl) h (.inr rfl) (vs:=[.complex .f64 x y,.int .i64 e]) rfl rfl) H
end
def foD(c1 c2 r:Nat):dF:=[(3,.cells [.complex .f64 0 0,.float .f64 0] 0),(2,.cells [.complex .f64 c1 c2,.float .f64 r] 0),(1,.cells [bL] 0)]
def foRd{R:Type}(fi:Fi)(st:St)(pl:aH5)(ad mu:gU)(ti:KCC)(g:bCv)(ts:List V9)(n k c1 c2 r x y:Nat)(K:Ex->Env->dF->Option R):Option R:=
 bif decide ((k:Int)<n) then aWc fi pl ad r c1 c2 n k λd1 d2 z1 z2=>g R nf z1 z2 ⟨5,foD c1 c2 r++[(4,.cells ts 0)]⟩ λv1 v2=>
  ti R d1 d2 λt1 t2=>xJ mu v1 v2 [(v1,v2),(t1,t2),(d1,d2)] λq1 q2=>
  bif decide (0<=(k:Int))&&decide ((k:Int)<n)&&true then
   st R ts (0+k*1) [.complex .f64 q1 q2] λts=>fi R (K9.i64.wrap (k+1)) λi=>K .normal (foE n x y i) (foD c1 c2 r++[(4,.cells ts 0)])
  else none
 else K (.exit 0) (foE n x y k) (foD c1 c2 r++[(4,.cells ts 0)])
section
variable(fi:Fi)(R:Type)(st:St)(ap:Ap)(pl:aH5)(ad mu:gU)(ti:KCC)(sc:mO)(cj:KCC)(fn:KCB)(ff:KFB)(g:bCv)(ts:List V9)(n k c1 c2 r x y u1 u2:Nat)(K:Ex->Env->dF->Option R)(L:qR)(gq gi gs:HT)
theorem fo_round:bE (foC aPn fi st ap pl ad mu ti sc cj fn ff [(61,bFy g)]) 60 noL 1 87 foA (foE n x y k) ⟨5,foD c1 c2 r++[(4,.cells ts 0)]⟩ (aU [31,30,10,4,3,2,6,8] [3,2,1,4] K)=foRd fi st pl ad mu ti g ts n k c1 c2 r x y K:=by kernel_rfl
theorem fo_top:bE (foC aPn fi st ap pl ad mu ti sc cj fn ff [(13,bF (reV x y 0) gq),(44,bF (.complex .f64 u1 u2) gs)]) 60 (eS [31,30,10,4,3,2,6,8] [3,2,1,4] L) 1 87 (bB 23) (gX 0 [nf,ciV c1 c2 r,.int .i64 n]) ⟨1,[]⟩ (aU [6,7] [3] K) =
  gq R [nf,ciV c1 c2 r,.int .i64 n] ⟨4,foD c1 c2 r⟩ (
   bif decide (0<=(n:Int))&&decide ((n:Int)<=n)&&decide ((n:Int)<=4294967296)&&decide ((16:Int)*n<=281474976710656) then
    L R 1 87 foA (foE n x y 0) ⟨5,foD c1 c2 r++[(4,.cells (yS n) 0)]⟩
     (fS 0 (jP (λen H=>bE (foC aPn fi st ap pl ad mu ti sc cj fn ff [(13,bF (reV x y 0) gq),(44,bF (.complex .f64 u1 u2) gs)]) 60 (eS [31,30,10,4,3,2,6,8] [3,2,1,4] L) 1 87 (lJ 5 (bB 23)) en H (aU [6,7] [3] K)) (aU [6,7] [3] K)))
   else none):=by kernel_rfl
theorem fo_end:bE (foC aPn fi st ap pl ad mu ti sc cj fn ff [(13,bF (reV x y 0) gq),(44,bF (.complex .f64 u1 u2) gs)]) 60 L 1 87 (lJ 5 (bB 23)) (foE n x y k) ⟨5,foD c1 c2 r++[(4,.cells ts 0)]⟩ (aU [6,7] [3] K) =
  gs R [.slice (some ⟨4,0,none⟩) n n] ⟨5,foD c1 c2 r++[(4,.cells ts 0)]⟩ (foZ ti sc cj fn ff n x y u1 u2 λa b m e=>K .ret [(6,.pointer (some ⟨3,0,none⟩)),(7,.int .i64 e)] [(3,.cells [.complex .f64 a b,.float .f64 m] 0)]):=by kernel_rfl
end
section
variable(fi:Fi)(R:Type)(g6:bP8)(wh:KIF)(ab:KFF)(md hy:vS)(st:St)(ap:Ap)(c c1 c2 r:Nat)(K:Ex->Env->dF->Option R)
theorem bPg:bE (tmC oa0 fi g6 wh ab md hy st ap) 60 (sV (tmC oa0 fi g6 wh ab md hy st ap) 60) 1 127 (bB 22) (gX 0 [bL,ciV c1 c2 r]) ⟨1,[]⟩ (aU [4,5] [2] K)=K .ret [(4,.pointer (some ⟨2,0,none⟩)),(5,.bool true)] [(2,.cells [bL] 0)]:=by kernel_rfl
theorem bPf:bE (tmC oa0 fi g6 wh ab md hy st ap) 60 (sV (tmC oa0 fi g6 wh ab md hy st ap) 60) 1 127 (bB 22) (gX 0 [.slice (some ⟨0,0,none⟩) 0 c,ciV c1 c2 r]) ⟨1,[]⟩ (aU [4,5] [2] K)=K .ret [(4,.pointer (some ⟨2,0,none⟩)),(5,.bool true)] [(2,.cells [bL] 0)]:=by kernel_rfl
end
theorem bT6(wi:aNo)(R:Type)(c1 c2 r:Nat)(k:KVO R):fC (cx P9 [(92,aP3 wi)]) 60 31 [nf,ciV c1 c2 r] k =
  wi R c1 c2 4787326403894837248 λt=>aW t λt=>bif t then(bif geF r 4427038433705197568 then(bif leF r 4787326403894837248 then aM (fbF .mul r 4517110426252607488) λt=>k (inV bL) else k (.tuple ⟨[bL,.int .i64 5]⟩)) else k (.tuple ⟨[bL,.int .i64 5]⟩)) else k (.tuple ⟨[bL,.int .i64 5]⟩):=by kernel_rfl
def byO(c1 c2 r:Nat):dF:=[(3,.cells [.complex .f64 0 0,.float .f64 0] 0),(2,.cells [.complex .f64 c1 c2,.float .f64 r] 0),(1,.cells [bL] 0)]
section
variable(fi:Fi)(R:Type)(ge:aUg)(st:St)(ap:Ap)(ad mu sub:gU)(sh ng cj:KCC)(sc:mO)(fn:KCB)(ff:KFB)(pr:KPr)(gq gi gs:HT)(c1 c2 r:Nat)(K:Ex->Env->dF->Option R)
theorem bRg:bE (fbC oa0 1 fi ge st ap ad mu sub sh ng cj sc fn ff pr [(11,bF (reV 0 0 0) gq),(44,bF (.complex .f64 0 0) gs)] [(31,aJz (inV bL) gi)]) 60 (sV (fbC oa0 1 fi ge st ap ad mu sub sh ng cj sc fn ff pr [(11,bF (reV 0 0 0) gq),(44,bF (.complex .f64 0 0) gs)] [(31,aJz (inV bL) gi)]) 60) 1 180 (bB 24) (gX 0 [nf,ciV c1 c2 r]) ⟨1,[]⟩ (aU [4,5] [3] K) =
  gq R [nf,ciV c1 c2 r] ⟨4,byO c1 c2 r⟩ (gi R [nf,ciV c1 c2 r] ⟨4,byO c1 c2 r⟩ (gs R [bL] ⟨7,[(6,.cells [bL,bL,.map (some 5)] 0),(5,.map .u8 aUw)]++byO c1 c2 r⟩ (xJ mu 0 0 [(0,0)] λr1 r2=>fbZ cj sc fn ff 0 0 r1 r2 λa b m e=>K .ret [(4,.pointer (some ⟨3,0,none⟩)),(5,.int .i64 e)] [(3,.cells [.complex .f64 a b,.float .f64 m] 0)]))):=by kernel_rfl
end
def ftE(N:Int)(u:Nat)(k:Int):Env:=[(22,.int .i64 k),(4,.int .i64 N),(12,.pointer (some ⟨1,0,none⟩)),(13,.pointer (some ⟨2,0,none⟩)),(19,.float .f64 4614256656552045848),(21,.float .f64 u),(15,.pointer (some ⟨3,0,none⟩)),(17,.pointer (some ⟨4,0,none⟩)),(11,.bool true)]
def ftO(c1 c2 r a1 a2 am b1 b2 bm:Nat):dF:=[foO 4 b1 b2 bm,foO 3 a1 a2 am,(2,.cells [bL] 0),foO 1 c1 c2 r]
section
variable(fi:Fi)(wh:KIF)(ab:KFF)(md:vS)(pl:aH5)(ad:gU)(sp:bC2)(ln:KCF)(nr:yY)(gm ga gb:HT)(n u k c c1 c2 r a1 a2 am b1 b2 bm:Nat)(x y rr m:Int)(L:qR)(R:Type)(K:Ex->Env->dF->Option R)
theorem ft_topS:bE (ftC fi wh ab md pl ad sp ln nr [(22,bF (ofV bL true) gm),(23,bF (rO a1 a2 am 0) ga),(24,bF (rO b1 b2 bm 0) gb)] []) 60 (eS ftT [4,3,2,1] L) 1 168 (bB 4) (gX 0 [bL,.int .i64 x,.int .i64 y,.int .i64 rr,.int .i64 m]) ⟨1,[]⟩ (aU [10] [] K) =
  ftN fi wh ab md x y rr m λc1 c2 r N=>gm R [bL,ciV c1 c2 r] ⟨2,[foO 1 c1 c2 r]⟩ (ga R [nf,ciV c1 c2 r,.int .i64 N] ⟨3,[(2,.cells [bL] 0),foO 1 c1 c2 r]⟩ (gb R [nf,ciV c1 c2 r] ⟨4,[foO 3 a1 a2 am,(2,.cells [bL] 0),foO 1 c1 c2 r]⟩ (
   L R 1 168 ftA (ftE N 0 0) ⟨5,ftO c1 c2 r a1 a2 am b1 b2 bm⟩ (fS 0 (jP (λen H=>bE (ftC fi wh ab md pl ad sp ln nr [(22,bF (ofV bL true) gm),(23,bF (rO a1 a2 am 0) ga),(24,bF (rO b1 b2 bm 0) gb)] []) 60 (eS ftT [4,3,2,1] L) 1 168 (lJ 12 (bB 4)) en H (aU [10] [] K)) (aU [10] [] K)))))):=by kernel_rfl
theorem ft_topA:bE (ftC fi wh ab md pl ad sp ln nr [(22,bF (ofV bL true) gm),(23,bF (rO a1 a2 am 0) ga),(24,bF (rO b1 b2 bm 0) gb)] []) 60 (eS ftT [4,3,2,1] L) 1 168 (bB 4) (gX 0 [.slice (some ⟨0,0,none⟩) 0 c,.int .i64 x,.int .i64 y,.int .i64 rr,.int .i64 m]) ⟨1,[]⟩ (aU [10] [] K) =
  ftN fi wh ab md x y rr m λc1 c2 r N=>gm R [.slice (some ⟨0,0,none⟩) 0 c,ciV c1 c2 r] ⟨2,[foO 1 c1 c2 r]⟩ (ga R [nf,ciV c1 c2 r,.int .i64 N] ⟨3,[(2,.cells [bL] 0),foO 1 c1 c2 r]⟩ (gb R [nf,ciV c1 c2 r] ⟨4,[foO 3 a1 a2 am,(2,.cells [bL] 0),foO 1 c1 c2 r]⟩ (
   L R 1 168 ftA (ftE N 0 0) ⟨5,ftO c1 c2 r a1 a2 am b1 b2 bm⟩ (fS 0 (jP (λen H=>bE (ftC fi wh ab md pl ad sp ln nr [(22,bF (ofV bL true) gm),(23,bF (rO a1 a2 am 0) ga),(24,bF (rO b1 b2 bm 0) gb)] []) 60 (eS ftT [4,3,2,1] L) 1 168 (lJ 12 (bB 4)) en H (aU [10] [] K)) (aU [10] [] K)))))):=by kernel_rfl
theorem ft_round:bE (ftC aG wh ab md pl ad sp ln nr [] []) 60 (sV (ftC aG wh ab md pl ad sp ln nr [] []) 60) 1 168 ftA (ftE n u k) ⟨5,ftO c1 c2 r a1 a2 am b1 b2 bm⟩ (aU (ftT++[10]) [4,3,2,1] K) =
  bif decide ((k:Int)<n) then aWc aG pl ad r c1 c2 n k λd1 d2 z1 z2=>aM (fbF .mul 0 0) λq=>aM (fbF .add u q) λu=>aG R (K9.i64.wrap (k+1)) λi=>K .normal (ftE n u i) (ftO c1 c2 r a1 a2 am b1 b2 bm)
  else K (.exit 0) (ftE n u k) (ftO c1 c2 r a1 a2 am b1 b2 bm):=by kernel_rfl
theorem ft_end:bE (ftC fi wh ab md pl ad sp ln nr [(22,bF (ofV bL true) gm),(23,bF (rO a1 a2 am 0) ga),(24,bF (rO b1 b2 bm 0) gb)] []) 60 L 1 168 (lJ 12 (bB 4)) (ftE n u n) ⟨5,ftO c1 c2 r a1 a2 am b1 b2 bm⟩ (aU [10] [] K) =
  ftZ nr n u r a1 a2 am b1 b2 bm (K .ret [(10,.bool true)] []):=by kernel_rfl
end
end Go.Vm.Nl
namespace Go.Vx
open Go.Vm Go.Proofs Ieee
def gmm(cx cy r:Int)(h:Th):Cp:=C9 ((r:Rat))⁻¹*Go.Vx.gz (h.x-cx) (h.y-cy)
section
variable{cx cy r:Int}{hs:List Th}{n:Int}{S:jO (fI cx) (fI cy) (fI r)}
theorem lwS(hc:smI cx cy=true)(see:∀h:Th,qW h->Go.Vm.aC2 (fI cx) (fI cy) S.lw h.el){h:Th}(f:qW h):
  ∃L,Is (S.lw h.el) L/\0<=L/\(L*L-(((h.x-cx)*(h.x-cx)+(h.y-cy)*(h.y-cy):Int):Rat)).abs<=4*eps*(((h.x-cx)*(h.x-cx)+(h.y-cy)*(h.y-cy):Int):Rat):=by
 have b:=f.xy;have bc:=aCo hc;obtain⟨d1,d2,hd,hsub⟩:=aDk f.at (⟨jF (by omega),jF (by omega)⟩:IsC (fI cx) (fI cy) cx cy) (by omega) (by omega);obtain⟨l,L,iL,L0,hL,hl⟩:=aZj hd.1 hd.2 (by omega) (by omega);have a:=see h f Nat some;unfold aGb at a;have e:S.lw h.el=l:=Option.some.inj (a.symm.trans ((hsub Nat λd1 d2=>cQ Nat d1 d2 some).trans (hl Nat some)));rw[e];exact⟨L,iL,L0,hL⟩
theorem bEv(g:Vm.Good S hs n){h:Th}(hm:h∈hs):∃L,Is (S.lw h.el) L/\0<=L/\
  (L*L-(((h.x-cx)*(h.x-cx)+(h.y-cy)*(h.y-cy):Int):Rat)).abs<=4*eps*(((h.x-cx)*(h.x-cx)+(h.y-cy)*(h.y-cy):Int):Rat):=lwS g.c g.see (g.fine h hm)
theorem aOs(h:Th)(hr:(r:Rat)≠0):(gmm cx cy r h).nsq*((r:Rat)*(r:Rat))=(((h.x-cx)*(h.x-cx)+(h.y-cy)*(h.y-cy):Int):Rat):=by
 unfold gmm;rw[uD];have e:(Go.Vx.gz (h.x-cx) (h.y-cy)).nsq=(((h.x-cx)*(h.x-cx)+(h.y-cy)*(h.y-cy):Int):Rat):=by unfold Go.Vx.gz Cp.nsq;push_cast;rfl
 rw[e];have:=Rat.inv_mul_cancel _ hr;generalize ((r:Rat))⁻¹=i at *
 generalize (((h.x-cx)*(h.x-cx)+(h.y-cy)*(h.y-cy):Int):Rat)=N;have e2:i*i*N*((r:Rat)*(r:Rat))=N*((i*r)*(i*r)):=by grind
 rw[e2,this];grind
theorem bI3(g:Vm.Good S hs n):(1:Rat)<=(r:Rat)/\(r:Rat)<=1000:=by have r1:((1:Int):Rat)<=(r:Rat):=Rat.intCast_le_intCast.2 g.r1;have r2:(r:Rat)<=((1000:Int):Rat):=Rat.intCast_le_intCast.2 g.r2;exact⟨r1,r2⟩
theorem bNs{q c:Rat}(hc:0<=c){x:Cp}(h:x.nsq<=q)(hq:q<=c*c):Nm x c:=⟨hc,cR h hq⟩
theorem aY4(g:Vm.Good S hs n){h:Th}(hm:h∈hs)(hl:leF (S.lw h.el) (xU (fI r))=true):Nm (gmm cx cy r h) (5075/10000):=by
 obtain⟨L,iL,L0,hL⟩:=bEv g hm;rw[sD iL (aJa g.r1 g.r2).2]at hl;have hl:=of_decide_eq_true hl;obtain⟨r1,r2⟩:=bI3 g;have et:=bR;have e:=aOs (cx:=cx) (cy:=cy) (r:=r) h (by grind);generalize (((h.x-cx)*(h.x-cx)+(h.y-cy)*(h.y-cy):Int):Rat)=N at *
 have sq:=aC hl hl L0 (by grind);have a:=aA.1 hL;have q0:=(gmm cx cy r h).nsq_nonneg;have rr:0<(r:Rat)*(r:Rat):=Rat.mul_pos (by grind) (by grind);have N0:0<=N:=by rw[<-e];exact bU q0 (bN rr)
 have en:=cG et N0;refine bNs (q:=2501/10000) (by decide +kernel) ?_ (by decide +kernel);refine Rat.not_lt.1 λhlt=>?_
 have:=Rat.mul_lt_mul_of_pos_right hlt rr;grind
theorem aVo(g:Vm.Good S hs n){h:Th}(hm:h∈hs)(hl:geF (S.lw h.el) (aHy (fI r))=true):Ng (gmm cx cy r h) (197058/100000):=by
 obtain⟨r1,r2⟩:=bI3 g;have et:=bR;have rr:0<(r:Rat)*(r:Rat):=Rat.mul_pos (by grind) (by grind);obtain⟨L,iL,L0,hL⟩:=bEv g hm;rw[tB iL (aKt g.r1 g.r2).2]at hl;have hl:=of_decide_eq_true hl;have e:=aOs (cx:=cx) (cy:=cy) (r:=r) h (by grind);generalize (((h.x-cx)*(h.x-cx)+(h.y-cy)*(h.y-cy):Int):Rat)=N at *
 have sq:=aC hl hl (by grind) L0;have a:=aA.1 hL;have q0:=(gmm cx cy r h).nsq_nonneg;have N0:0<=N:=by rw[<-e];exact bU q0 (bN rr)
 have en:=cG et N0;have hN:39/10*((r:Rat)*(r:Rat))<=N:=by grind
 refine⟨by decide +kernel,cR (b:=39/10) (by decide +kernel) ?_⟩;refine Rat.not_lt.1 λhlt=>?_
 have:=Rat.mul_lt_mul_of_pos_right hlt rr;grind
end
theorem bDq(x y:Cp):(x.nsq-y.nsq)*(x.nsq-y.nsq)<=(x-y).nsq*(2*(x.nsq+y.nsq)):=by
 have c:(x.re*y.re+x.im*y.im)*(x.re*y.re+x.im*y.im)<=x.nsq*y.nsq:=by have:=aT (x.re*y.im-x.im*y.re);unfold Cp.nsq;grind
 have e:(x-y).nsq=x.nsq+y.nsq-2*(x.re*y.re+x.im*y.im):=by unfold Cp.nsq;simp only[S9,T9];grind
 rw[e];generalize x.re*y.re+x.im*y.im=C at *
 generalize x.nsq=p at *
 generalize y.nsq=q at *
 have:=aT (p+q-2*C);grind
theorem bNa{x y:Cp}(hx:(x.nsq-1).abs<=1/1000000000)(hy:1/1000000<=(y.nsq-1).abs):Ng (x-y) (3/10000000):=by
 have h:=bDq x y;have y0:=y.nsq_nonneg;have a:=aA.1 hx;refine⟨by decide +kernel,?_⟩;generalize (x-y).nsq=D at *
 generalize hp:x.nsq=p at *
 generalize hq:y.nsq=q at *
 refine Rat.not_lt.1 λhl=>?_
 have two:0<2*(p+q):=by grind
 have h2:=Rat.mul_lt_mul_of_pos_right hl two;rcases(Rat.le_total:q<=4\/4<=q) with h4|h4
 ·have sq:998/1000000000*(998/1000000000)<=(p-q)*(p-q):=by
   have b:999/1000000000<=(p-q).abs:=by have t:=aL (q-p) (p-1);rw[show q-p+(p-1)=q-1 by grind,lQ q p]at t;grind
   have:=aC b b (by decide +kernel) (aH _);rw[oL]at this;grind
  grind
 ·have b:2<=q-p:=by grind
  have:=aC b (show q/4<=q-p by grind) (by grind) (by grind);grind
theorem bOk{L r e:Rat}(r1:1<=r)(L0:0<=L)(a:-(4*e*(r*r))<=L*L-r*r/\L*L-r*r<=4*e*(r*r))(err:e*(r*r)<=1/1000000000000000*(r*r)):r*(1-1/10000000)<=L/\L<=r*(1+1/10000000):=by
 have rr:=aC r1 r1 (by decide) (show 0<=r by grind);constructor
 ·refine Rat.not_lt.1 λhl=>?_
  have:=aC (bN hl) (bN hl) L0 (by grind);grind
 ·refine Rat.not_lt.1 λhl=>?_
  have:=aC (bN hl) (bN hl) (by grind) L0;grind
section
variable{cx cy r:Int}{hs:List Th}{n:Int}{S:jO (fI cx) (fI cy) (fI r)}
theorem aUs(g:Vm.Good S hs n){h:Th}(hm:h∈hs)(hk:h.kind=4):(h.x-cx)*(h.x-cx)+(h.y-cy)*(h.y-cy)≠r*r:=λe=>by
 obtain⟨r1,r2⟩:=bI3 g;have et:=bR;have gr1:=g.r1;have gr2:=g.r2;obtain⟨L,iL,L0,hL⟩:=bEv g hm;rw[e]at hL;have er:((r*r:Int):Rat)=(r:Rat)*(r:Rat):=by push_cast;rfl
 rw[er]at hL;have hr:Is (fI r) r:=jF (by omega);have T1:(r:Rat)*(2:Rat)^(-20:Int)=(r:Rat)*(1/1048576):=by rw[aPt]
 obtain⟨t,T,e1,i1,q1⟩:=kH hr aOv (kL (by rw[T1];exact aA.2 ⟨by grind,by grind⟩));have eT:T=r*(2:Rat)^(-20:Int):=q1.rep r (-20) (by omega) (by decide) rfl;rw[T1]at eT;have ht:=S.ht;rw[e1]at ht;have ht:=Option.some.inj ht;obtain⟨p,P,e2,i2,q2⟩:=mJ hr i1 (kL (by rw[eT];exact aA.2 ⟨by grind,by grind⟩));obtain⟨m,M,e3,i3,q3⟩:=qD hr i1 (kL (by rw[eT];exact aA.2 ⟨by grind,by grind⟩));have hp:=S.hp;have hmm:=S.hm;rw[<-ht,e2]at hp;rw[<-ht,e3]at hmm;have hp:=Option.some.inj hp;have hmm:=Option.some.inj hmm;have d2:=vV q2 (B:=2*r) (by rw[eT];exact aA.2 ⟨by grind,by grind⟩) (cR mZ (by grind));have d3:=vV q3 (B:=2*r) (by rw[eT];exact aA.2 ⟨by grind,by grind⟩) (cR mZ (by grind));have a2:=aA.1 d2;have a3:=aA.1 d3;have a:=aA.1 hL;have er':=cG et (show 0<=(r:Rat) by grind);have rr:=bU (show 0<=(r:Rat) by grind) (show 0<=(r:Rat) by grind);have err:=cG et rr;obtain⟨l2,l1⟩:=bOk r1 L0 a err;have off:=g.off h hm;unfold oC at off;have k1:(h.el.kind != 1)=true:=by show(h.kind != 1)=true;rw[hk];rfl
 rw[k1,Bool.true_and,<-hp,<-hmm,sD iL i2,tB iL i3,D7 (by grind),D7 (by grind)]at off;cases off
theorem aUr(g:Vm.Good S hs n){h:Th}(hm:h∈hs)(hk:h.kind=4):1/1000000<=((gmm cx cy r h).nsq-1).abs:=by
 obtain⟨r1,r2⟩:=bI3 g;have e:=aOs (cx:=cx) (cy:=cy) (r:=r) h (by grind);have hne:=aUs g hm hk;have er:((r*r:Int):Rat)=(r:Rat)*(r:Rat):=by push_cast;rfl
 generalize hN:(h.x-cx)*(h.x-cx)+(h.y-cy)*(h.y-cy)=N at *
 have big:1<=((N:Rat)-(r:Rat)*(r:Rat)).abs:=by
  rw[<-er];have c:(N:Rat)-((r*r:Int):Rat)=((N-r*r:Int):Rat):=by push_cast;rfl
  rw[c];generalize hd:N-r*r=d;have dne:d≠0:=by omega
  rcases Int.lt_or_gt_of_ne dne with h|h;· have:(d:Rat)<=((-1:Int):Rat):=Rat.intCast_le_intCast.2 (by omega);rw[show((-1:Int):Rat)=-1 from rfl]at this;rw[Rat.abs_of_nonpos (by grind)];grind
  ·have:((1:Int):Rat)<=(d:Rat):=Rat.intCast_le_intCast.2 (by omega);rw[show((1:Int):Rat)=1 from rfl]at this;rw[fZ (by grind)];exact this
 rw[<-e]at big;have rr:=aC r2 r2 (by grind) (by decide);have rr0:0<(r:Rat)*(r:Rat):=Rat.mul_pos (by grind) (by grind);have e2:(gmm cx cy r h).nsq*((r:Rat)*(r:Rat))-(r:Rat)*(r:Rat)=((gmm cx cy r h).nsq-1)*((r:Rat)*(r:Rat)):=by grind
 rw[e2,bD,fZ (bN rr0)]at big;generalize ((gmm cx cy r h).nsq-1).abs=D at *
 refine Rat.not_lt.1 λhl=>?_
 have:=Rat.mul_lt_mul_of_pos_right hl rr0;grind
end
theorem aXy:∀m:Nat,1<=m->m<=8->fI (m:Int)=wrd m
 |1,_,_=>by kernel_rfl
 |2,_,_=>by kernel_rfl
 |3,_,_=>by kernel_rfl
 |4,_,_=>by kernel_rfl
 |5,_,_=>by kernel_rfl
 |6,_,_=>by kernel_rfl
 |7,_,_=>by kernel_rfl
 |8,_,_=>by kernel_rfl
 |0,h,_=>absurd h (by omega)
 |n+9,_,h=>absurd h (by omega)
theorem cF7:Is 4620693217682128896 ((8:Int):Rat):=aCf (by decide) (by decide)
theorem cF6:Is 4616189618054758400 ((4:Int):Rat):=aCf (by decide) (by decide)
theorem bXz:Is 4607182418800017408 ((1:Int):Rat):=aCf (by decide) (by decide)
section
variable{cx cy r:Int}{hs:List Th}{n:Int}{S:jO (fI cx) (fI cy) (fI r)}
theorem bKo(g:Vm.Good S hs n){h:Th}(hm:h∈hs):tT h.kind (decide (h.x=0/\h.y=0)) (fI h.p)=0:=by have f:=g.fine h hm;have b:=f.xy;have hp:=f.pow;have h1:=zO f Int some;have h2:=aC5 (kind:=h.kind) f.at f.st (by omega) (by omega) (by omega) (by omega) (jF (n:=h.p) (by omega)).1 (some:Int->Option Int);have e:(some (erE h.el):Option Int)=some (tT h.kind (decide (h.x=0/\h.y=0)) (fI h.p)):=h1.symm.trans h2;rw[g.chk h hm]at e;exact(Option.some.inj e).symm
theorem eld(g:Vm.Good S hs n){h:Th}(hm:h∈hs):ElD h.kind (fI h.x) (fI h.y) (fI h.s) (fI h.t) (fI h.p) h.x h.y h.s h.t:=by have f:=g.fine h hm;have b:=f.xy;have hp:=f.pow;exact⟨f.at,f.st,b.1,b.2.1,b.2.2.1,b.2.2.2,(jF (n:=h.p) (by omega)).1,bKo g hm⟩
theorem aOw(g:Vm.Good S hs n){h:Th}(hm:h∈hs):h.kind=1\/h.kind=2\/(h.kind=3/\∃m:Nat,1<=m/\m<=8/\h.p=(m:Int))\/(h.kind=4/\∃m:Nat,1<=m/\m<=4/\h.p=(m:Int)):=by
 have c:=bKo g hm;have f:=g.fine h hm;have hp:=f.pow;have ip:Is (fI h.p) (h.p:Rat):=jF (by omega);by_cases k1:h.kind=1;· exact .inl k1
 by_cases k2:h.kind=2;· exact .inr (.inl k2)
 unfold tT at c;cases a1:decide (h.kind<1) with
 |true=>rw[a1]at c;simp at c
 |false=>
 rw[a1]at c;cases a2:decide (h.kind>4) with
 |true=>rw[a2]at c;simp at c
 |false=>
 rw[a2]at c;cases a3:leF (wV (fI h.p)) 4787326403894837248 with
 |false=>rw[a3]at c;simp at c
 |true=>
 rw[a3]at c;have n1:(h.kind==1)=false:=by simpa using k1
 have n2:(h.kind==2)=false:=by simpa using k2
 rw[n1,n2]at c;have a1:=of_decide_eq_false a1;have a2:=of_decide_eq_false a2;by_cases k3:h.kind=3
 ·right;right;left;refine⟨k3,?_⟩;have n3:(h.kind==3)=true:=by simpa using k3
  rw[n3]at c;cases a4:eqF (aF4 (fI h.p)) (fI h.p) with
  |false=>rw[a4]at c;simp at c
  |true=>
  rw[a4,tB ip bXz,sD ip cF7]at c;by_cases u1:((1:Int):Rat)<=(h.p:Rat)
  ·by_cases u2:(h.p:Rat)<=((8:Int):Rat)
   ·have v1:=Rat.intCast_le_intCast.1 u1;have v2:=Rat.intCast_le_intCast.1 u2;exact⟨h.p.toNat,by omega,by omega,by omega⟩
   ·rw[D7 u1,E7 u2]at c;simp at c
  ·rw[E7 u1]at c;simp at c
 ·right;right;right;refine⟨by omega,?_⟩;have n3:(h.kind==3)=false:=by simpa using k3
  rw[n3]at c;by_cases v0:h.p<=0
  ·exfalso;have hf:¬((1/4:Rat)<=(h.p:Rat)):=λhq=>by have:(h.p:Rat)<=((0:Int):Rat):=Rat.intCast_le_intCast.2 v0;rw[show((0:Int):Rat)=0 from rfl]at this;grind
   rw[tB ip aVr,E7 hf]at c;simp at c
  ·rw[sD ip cF6]at c;by_cases u2:(h.p:Rat)<=((4:Int):Rat)
   ·have v2:=Rat.intCast_le_intCast.1 u2;exact⟨h.p.toNat,by omega,by omega,by omega⟩
   ·rw[E7 u2]at c;exfalso;revert c;cases geF (fI h.p) 4598175219545276416<;>simp
end
open Go.Vm Ieee
structure Plc(c1 c2:Nat)(cx cy:Int)(R:Rat)(d z:Nat×Nat)(D Z:Cp):Prop where
 iD:IsZ d.1 d.2 D
 iZ:IsZ z.1 z.2 Z
 nD:Nm D (1001/1000*R)
 nZ:Nm Z 10000
 r1:(Z.re-((cx:Rat)+D.re)).abs<=eps/4*(1002*R)
 r2:(Z.im-((cy:Rat)+D.im)).abs<=eps/4*(1002*R)
 add:∀(T:Type)(K:KNN T),jJ T c1 c2 d.1 d.2 K=K z.1 z.2
section
variable{Q h:Rat}{n k:Nat}(hQ:aUf Q)(n1:128<=n)(n2:n<=512)(hh:(n:Rat)*h=Q)(hk:k<n){c1 c2 r t:Nat}{cx cy:Int}{R τ:Rat}(hc:IsC c1 c2 cx cy)(b1:cx.natAbs<=1000)(b2:cy.natAbs<=1000)(hr:Is r R)(R1:1<=R)(R2:R<=2000)
include hQ n1 n2 hh hk hc b1 b2 hr R1 R2
theorem bI0(ht:Is t τ)(t0:0<=τ)(t1:τ<=64/10)(dτ:(τ-(k:Rat)*h).abs<=54/10*eps):∃d z D Z,Plc c1 c2 cx cy R d z D Z/\Nm (C9 R⁻¹*D-om ((k:Rat)*h)) (16*eps)/\
  ∀(T:Type)(K:KNN T),(yV T t λs c=>aM (fbF .mul r c) λx=>aM (fbF .mul r s) λy=>K x y)=K d.1 d.2:=by
 have et:=bR;have kt:=qN;obtain⟨x,y,D,iD,dD,hK⟩:=aVp hQ n1 n2 hh hk hr R1 (cR R2 (by decide +kernel)) ht t0 t1 dτ;have nk:=bCz hQ n1 n2 hh (Nat.le_of_lt hk);have nζ:Nm (C9 R⁻¹*D) (1001/1000):=(dD.near nk).mono (by grind);have Rn:R≠0:=by grind
 have nD:Nm D (1001/1000*R):=by
  have e:C9 R*(C9 R⁻¹*D)=D:=by rw[<-M9,<-Cp.of_mul_of,Rat.mul_inv_cancel _ Rn];exact Cp.one_mul D
  have:=(oV (x:=R) (r:=R) (by rw[fZ (by grind)];exact R9)).mul nζ;rw[e]at this;exact this.mono (by grind)
 obtain⟨z1,z2,Z,iZ,nZ,q1,q2,hA⟩:=bFk hc b1 b2 R1 R2 iD nD;exact⟨(x,y),(z1,z2),D,Z,⟨iD,iZ,nD,nZ,q1,q2,hA⟩,dD,hK⟩
theorem bNm:∃d z D Z,Plc c1 c2 cx cy R d z D Z/\Nm (C9 R⁻¹*D-om ((k:Rat)*h)) (16*eps)/\∀(T:Type)(K:KNN T),
  (bH (U9 .f64 (k:Int)) λa=>aM (fbF .mul 4611686018427387904 a) λa=>aM (fbF .mul a 4614256656552045848) λa=>bH (U9 .f64 (n:Int)) λb=>aM (fbF .quo a b) λt=>
   yV T t λs c=>aM (fbF .mul r c) λx=>aM (fbF .mul r s) λy=>K x y)=K d.1 d.2:=by
 obtain⟨t,τ,h1,h2,h3,h4,h5⟩:=aK6 hQ n1 n2 hh hk;obtain⟨d,z,D,Z,p1,p2,p3⟩:=bI0 hQ n1 n2 hh hk hc b1 b2 hr R1 R2 h1 h2 h3 h4;exact⟨d,z,D,Z,p1,p2,λT K=>(h5 T _).trans (p3 T K)⟩
theorem cGe:∃d z D Z,Plc c1 c2 cx cy R d z D Z/\Nm (C9 R⁻¹*D-om ((k:Rat)*h)) (16*eps)/\∀(T:Type)(K:KNN T),
  (bH (U9 .f64 (k:Int)) λa=>aM (fbF .mul 4618760256179416344 a) λa=>bH (U9 .f64 (n:Int)) λb=>aM (fbF .quo a b) λt=>
   yV T t λs c=>aM (fbF .mul r c) λx=>aM (fbF .mul r s) λy=>K x y)=K d.1 d.2:=by
 obtain⟨t,τ,h1,h2,h3,h4,h5⟩:=bQ3 hQ n1 n2 hh hk;obtain⟨d,z,D,Z,p1,p2,p3⟩:=bI0 hQ n1 n2 hh hk hc b1 b2 hr R1 R2 h1 h2 h3 h4;exact⟨d,z,D,Z,p1,p2,λT K=>(h5 T _).trans (p3 T K)⟩
end
theorem bVa{V X:Cp}{δ l:Rat}(h:Rl V X δ)(d0:0<=δ)(hd:δ<=1/1000)(hl:Nm V l):Nm X ((1+101/100*δ)*l):=by have a:=hl.sub (bI6 h d0 hd hl);have e:V-(V-X)=X:=Cp.ext' (by simp only[S9];grind) (by simp only[T9];grind);rw[e]at a;exact a.mono (by grind)
theorem bI7{V X:Cp}{δ l:Rat}(h:Rl V X δ)(hl:Nm X l):Nm V ((1+δ)*l):=by obtain⟨e,e1,rfl⟩:=h;exact(hl.mul (aHi.add e1)).mono (by grind)
theorem bCi:2300*eps<=4/1000000000000:=by rw[oP];decide +kernel
theorem aXb{EK EM:Cp}{R:Rat}(R1:1<=R)(d:Nm (C9 R⁻¹*EK-C9 R⁻¹*EM) (2300*eps))(far:Ng (C9 R⁻¹*EM) (29/100000000)):Rl EK EM (1/70000)/\EM.nsq≠0:=by
 have Rn:R≠0:=by grind
 have h:=(aHp far (by decide +kernel) d).mono (δ:=_) (γ:=1/70000) (aHa (by decide +kernel) (cR bCi (by decide +kernel)));have back:∀E:Cp,C9 R*(C9 R⁻¹*E)=E:=λE=>by rw[<-M9,<-Cp.of_mul_of,Rat.mul_inv_cancel _ Rn];exact Cp.one_mul E
 have h2:=(Rl.refl (C9 R) (δ:=0) R9).mul h;rw[back,back]at h2;refine⟨h2.mono (by grind),λe=>?_⟩;have:=vF far (by decide +kernel);apply this;rw[Cp.nsq_mul,e,Rat.mul_zero]
theorem aMr{VK VM XK XM:Cp}{Y l:Rat}(hK:Rl VK XK (100*eps))(hM:Rl VM XM (100*eps))(h:Rl XK XM Y)(Y0:0<=Y)(Y1:Y<=1/3000)(hl:Nm VM l):Nm VK (1001/1000*l):=by
 have ep:=bI;have et:=bR;have x:=bVa hM (by grind) (by grind) hl;have y:=bI7 h x;have v:=bI7 hK y;refine v.mono ?_;have l0:=hl.1;have k2:(1+100*eps)*((1+Y)*(1+101/100*(100*eps)))<=1001/1000:=by have a:=aC (show 1+Y<=3001/3000 by grind) (show 1+101/100*(100*eps)<=1000001/1000000 by grind) (by grind) (by decide +kernel);have b:=aC (show 1+100*eps<=1000001/1000000 by grind) a (bU (by grind) (by grind)) (by decide +kernel);exact cR b (by decide +kernel)
 have:=cG k2 l0;grind
theorem bUu{m:Nat}(hm:m<=9):0<=(m:Rat)*(2*(1/70000))*(1+(m:Rat)*(2*(1/70000)))/\(m:Rat)*(2*(1/70000))*(1+(m:Rat)*(2*(1/70000)))<=1/3000:=by
 have mm:(m:Rat)<=9:=by exact_mod_cast hm
 have m0:(0:Rat)<=(m:Rat):=by exact_mod_cast Nat.zero_le m
 refine⟨bU (bU m0 (by decide +kernel)) (by grind),?_⟩;have:=aC (show(m:Rat)*(2*(1/70000))<=9/35000 by grind) (show 1+(m:Rat)*(2*(1/70000))<=11/10 by grind) (by grind) (by decide +kernel);exact cR this (by decide +kernel)
theorem aVn{VK VM C EK EM:Cp}{R l:Rat}{m:Nat}(hm:m<=9)(R1:1<=R)(hK:Rl VK (C*EK.inv.pw m) (100*eps))(hM:Rl VM (C*EM.inv.pw m) (100*eps))(d:Nm (C9 R⁻¹*EK-C9 R⁻¹*EM) (2300*eps))(far:Ng (C9 R⁻¹*EM) (29/100000000))(hl:Nm VM l):Nm VK (1001/1000*l):=by
 obtain⟨h1,h2⟩:=aXb R1 d far;obtain⟨h3,_⟩:=h1.inv (by decide +kernel) h2;have mm:(m:Rat)<=9:=by exact_mod_cast hm
 have h4:=bFt h3 (by decide +kernel) m (by grind);have h5:=(Rl.refl C (δ:=0) R9).mul h4;obtain⟨y0,y1⟩:=bUu hm;exact aMr hK hM (h5.mono (by grind)) y0 y1 hl
theorem aMq{VK VM C EK EM:Cp}{R l:Rat}{m:Nat}(hm:m<=9)(R1:1<=R)(hK:Rl VK (C*EK.pw m) (100*eps))(hM:Rl VM (C*EM.pw m) (100*eps))(d:Nm (C9 R⁻¹*EK-C9 R⁻¹*EM) (2300*eps))(far:Ng (C9 R⁻¹*EM) (29/100000000))(hl:Nm VM l):Nm VK (1001/1000*l):=by
 obtain⟨h1,h2⟩:=aXb R1 d far;have h3:=h1.mono (show(1:Rat)/70000<=2*(1/70000) by decide +kernel);have mm:(m:Rat)<=9:=by exact_mod_cast hm
 have h4:=bFt h3 (by decide +kernel) m (by grind);have h5:=(Rl.refl C (δ:=0) R9).mul h4;obtain⟨y0,y1⟩:=bUu hm;exact aMr hK hM (h5.mono (by grind)) y0 y1 hl
theorem aZy{E b:Cp}{R g d:Rat}(R1:1<=R)(hb:Ng b g)(h:Nm (C9 R⁻¹*E-b) d)(hd:d<=g)(hm:mD<=g-d):Ng (C9 R⁻¹*E) (g-d)/\Ng E mD:=by
 have Rn:R≠0:=by grind
 have a:=oG hb h hd;have e:b+(C9 R⁻¹*E-b)=C9 R⁻¹*E:=Cp.ext' (by simp only[Cp.add_re,S9];grind) (by simp only[Cp.add_im,T9];grind);rw[e]at a;refine⟨a,?_⟩;have r:Ng (C9 R) R:=⟨by grind,by unfold Cp.nsq;simp only[Cp.of_re,Cp.of_im];grind⟩;have m:=r.mul a;have back:C9 R*(C9 R⁻¹*E)=E:=by rw[<-M9,<-Cp.of_mul_of,Rat.mul_inv_cancel _ Rn];exact Cp.one_mul E
 rw[back]at m;have p:=aAa;refine m.mono (bN p) ?_;have:=aC R1 hm (bN p) (by grind);grind
section
variable{c1 c2 a1 a2 s1 s2 p:Nat}{cx cy X Y S T:Int}{R:Rat}{d z:Nat×Nat}{D Z:Cp}(hP:Plc c1 c2 cx cy R d z D Z)(bc1:cx.natAbs<=1000)(bc2:cy.natAbs<=1000)(R1:1<=R)(R2:R<=2000)
include hP bc1 bc2 R1 R2
theorem aQa{kind:Int}(h:ElD kind a1 a2 s1 s2 p X Y S T)(far:Ng (C9 R⁻¹*D-C9 R⁻¹*gz (X-cx) (Y-cy)) (3/10000000)):
  ∃e1 e2 E,aC2 a1 a2 z.1 z.2 e1 e2 E Z/\Nm E rD/\Ng E mD/\Ng (C9 R⁻¹*E) (29/100000000)/\Nm (C9 R⁻¹*E-(C9 R⁻¹*D-C9 R⁻¹*gz (X-cx) (Y-cy))) (1127*eps):=by
 obtain⟨e1,e2,E,h1,h2,h3⟩:=aM4 h.ha h.bX h.bY bc1 bc2 R1 R2 hP.nD hP.iZ hP.nZ hP.r1 hP.r2;have sm:1127*eps<=1/100000000:=by rw[oP];decide +kernel
 have md:mD<=3/10000000-1127*eps:=by
  have:mD<=29/100000000:=by unfold mD;decide +kernel
  grind
 obtain⟨g1,g2⟩:=aZy R1 far h3 (cR sm (by decide +kernel)) md;exact⟨e1,e2,E,h1,h2.mono (by unfold rD;decide +kernel),g2,g1.mono (by decide +kernel) (by grind),h3⟩
theorem aUj{m:Nat}(m1:1<=m)(m8:m<=8)(h:ElD 3 a1 a2 s1 s2 (wrd m) X Y S T)(far:Ng (C9 R⁻¹*D-C9 R⁻¹*gz (X-cx) (Y-cy)) (3/10000000)):
  ∃(v:Nat×Nat)(V E:Cp),IsZ v.1 v.2 V/\(∀(T':Type)(k:vT T'),spdK T' 3 a1 a2 s1 s2 (wrd m) z.1 z.2 k=k v.1 v.2 0)/\Nm E rD/\Ng (C9 R⁻¹*E) (29/100000000)/\
   Nm (C9 R⁻¹*E-(C9 R⁻¹*D-C9 R⁻¹*gz (X-cx) (Y-cy))) (1127*eps)/\Rl V (gz (S*-(m:Int)) (T*-(m:Int))*E.inv.pw (m+1)) (100*eps):=by
 obtain⟨e1,e2,E,q1,q2,q3,q4,q5⟩:=aQa hP bc1 bc2 R1 R2 h far;obtain⟨x,y,V,iV,rV,hV⟩:=aQg m1 m8 h q1 q3 q2;exact⟨(x,y),V,E,iV,hV,q2,q4,q5,rV⟩
theorem aW2{m:Nat}(m1:1<=m)(m4:m<=4)(h:ElD 4 a1 a2 s1 s2 (wrd m) X Y S T)(far:Ng (C9 R⁻¹*D-C9 R⁻¹*gz (X-cx) (Y-cy)) (3/10000000)):
  ∃(v:Nat×Nat)(V E:Cp),IsZ v.1 v.2 V/\(∀(T':Type)(k:vT T'),spdK T' 4 a1 a2 s1 s2 (wrd m) z.1 z.2 k=k v.1 v.2 0)/\Nm E rD/\Ng (C9 R⁻¹*E) (29/100000000)/\
   Nm (C9 R⁻¹*E-(C9 R⁻¹*D-C9 R⁻¹*gz (X-cx) (Y-cy))) (1127*eps)/\Rl V (gz (S*(m:Int)) (T*(m:Int))*E.pw (m-1)) (100*eps):=by
 obtain⟨e1,e2,E,q1,q2,q3,q4,q5⟩:=aQa hP bc1 bc2 R1 R2 h far;obtain⟨x,y,V,iV,rV,hV⟩:=aVw m1 m4 h q1 q3 q2;exact⟨(x,y),V,E,iV,hV,q2,q4,q5,rV⟩
theorem aW4{k1 k2:Nat}{C:Cp}(hc:∀(R:Type)(k:KNN R),eQ R s1 s2 4594902181429758083 k=k k1 k2)(iC:IsZ k1 k2 C)(hC:C≠Z9->Ng C (1/10))(nC:Nm C 20000)(h:ElD 2 a1 a2 s1 s2 p X Y S T)(far:Ng (C9 R⁻¹*D-C9 R⁻¹*gz (X-cx) (Y-cy)) (3/10000000)):
  ∃(v:Nat×Nat)(V E:Cp),IsZ v.1 v.2 V/\(∀(T':Type)(k:vT T'),spdK T' 2 a1 a2 s1 s2 p z.1 z.2 k=k v.1 v.2 0)/\Nm E rD/\Ng (C9 R⁻¹*E) (29/100000000)/\
   Nm (C9 R⁻¹*E-(C9 R⁻¹*D-C9 R⁻¹*gz (X-cx) (Y-cy))) (1127*eps)/\Rl V (C*E.inv.pw 1) (100*eps):=by
 obtain⟨e1,e2,E,q1,q2,q3,q4,q5⟩:=aQa hP bc1 bc2 R1 R2 h far;obtain⟨x,y,V,iV,rV,hV⟩:=aQd h q1 q3 q2 hc iC hC nC;exact⟨(x,y),V,E,iV,hV,q2,q4,q5,rV⟩
theorem aLd(h:ElD 1 a1 a2 s1 s2 p X Y S T)(T':Type)(k:vT T'):spdK T' 1 a1 a2 s1 s2 p z.1 z.2 k=k s1 s2 0:=by obtain⟨e1,e2,E,h1,_,_⟩:=aM4 h.ha h.bX h.bY bc1 bc2 R1 R2 hP.nD hP.iZ hP.nZ hP.r1 hP.r2;exact aVx h h1 T' k
end
theorem aM9{s1 s2:Nat}{S T:Int}(hs:IsC s1 s2 S T)(b1:S.natAbs<=1000)(b2:T.natAbs<=1000){F:Rat}(hF:Is 4594902181429758083 F)(F1:159/1000<=F)(F2:F<=160/1000):
  ∃k1 k2 C,(∀(R:Type)(k:KNN R),eQ R s1 s2 4594902181429758083 k=k k1 k2)/\IsZ k1 k2 C/\(C≠Z9->Ng C (1/10))/\Nm C 20000/\Rl C (C9 F*gz S T) eps:=by
 have ep:=bI;have et:=bR;have nA:=aI8 b1 b2;have o3:((1000:Nat):Rat)=1000:=rfl;rw[o3]at nA;have aF:F.abs=F:=fZ (by grind);have of1:Ng (C9 F) (159/1000):=⟨by decide +kernel,by unfold Cp.nsq;simp only[Cp.of_re,Cp.of_im];have:=aC F1 F1 (by decide +kernel) (by grind);grind⟩;have h0:gz S T=Z9\/(Ng (C9 F*gz S T) (159/1000)/\4*tn<=1/1000*eps*(159/1000)):=by
  by_cases hz:gz S T=Z9;· exact .inl hz
  ·right;have:=of1.mul (aBh hz);rw[Rat.mul_one]at this;refine⟨this,?_⟩;have e:=aHw (q:=3) (by decide);have p3:(2:Rat)^(-((3:Nat):Int))<=159/1000:=by have h:=jG 3;rw[show(2:Rat)^(3:Int)=8 by rw[show(3:Int)=((3:Nat):Int) by rfl,cN];rfl]at h;show(2:Rat)^(-3:Int)<=_;grind
   have:=dI p3 (show 0<=1/1000*eps by grind);have:=aCr;grind
 obtain⟨k1,k2,C,iC,rC,hC⟩:=aTu (aJc hs) hF nA (by rw[aF,bZ];have:=dI F2 (show(0:Rat)<=3/2*1000 by decide +kernel);grind) h0;refine⟨k1,k2,C,hC,iC,λhne=>?_,?_,rC⟩
 ·rcases h0 with h|⟨h,_⟩
  ·exact absurd (rC.zero (by rw[h,Cp.mul_zero])) hne
  ·obtain⟨e,e1,e2⟩:=rC;rw[e2];refine(h.mul (aSv e1 (by grind))).mono (by decide +kernel) ?_;have:=dI (show 999/1000<=1-eps by grind) (show(0:Rat)<=159/1000 by decide +kernel);grind
 ·have nF:Nm (C9 F) (160/1000):=oV (by rw[aF];exact F2);have:=rC.nm (nF.mul nA) (by grind);exact this.mono (by decide +kernel)
end Go.Vx
