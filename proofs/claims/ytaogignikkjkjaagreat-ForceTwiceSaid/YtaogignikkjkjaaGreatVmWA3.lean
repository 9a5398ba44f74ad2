/- A part; no conditions. -/
import Derived.Test.YtaogignikkjkjaaGreatVmZY5
set_option maxRecDepth 1000000
set_option maxHeartbeats 1000000
set_option linter.all false
open Go.Proofs.Tryz renaming prog->P9
open Go renaming Value->V9,IntKind->K9,floatOfInt->U9,floatToIntVal->J9,Code->H9
namespace Go.Vm
open Go.Proofs
def piW:Nat:=4614256656552045848
def bH2{R:Type}(r c1 c2 n k:Nat)(K:Nat->Nat->Nat->Nat->Option R):Option R:=
 bH (U9 .f64 (k:Int)) λa=>aM (fbF .mul 4611686018427387904 a) λa=>aM (fbF .mul a piW) λa=>bH (U9 .f64 (n:Int)) λb=>aM (fbF .quo a b) λt=>
  vX R r t λd1 d2=>jJ R c1 c2 d1 d2 λz1 z2=>K d1 d2 z1 z2
def bXx{R:Type}(n x y:Nat)(K:bW6 R):Option R:=
 aM (fbF .mul 4611686018427387904 piW) λa=>bH (U9 .f64 (n:Int)) λb=>aM (fbF .quo a b) λt=>eQ R x y t λu v=>aP R u v λt=>K u v t
structure Abt(cs:List V9)(sz m c c1 c2 r n:Nat)(d z v q:Nat->Nat×Nat):Prop where
 gone:∀k,k<n->∀(R:Type)(K:Nat->Nat->Nat->Nat->Option R),bH2 r c1 c2 n k K=K (d k).1 (d k).2 (z k).1 (z k).2
 spd:∀k,k<n->aD P9 61 [cW 0 m c,.complex .f64 (z k).1 (z k).2] ⟨1,[(0,.cells cs sz)]⟩ (.tuple ⟨[.complex .f64 (v k).1 (v k).2,.int .i64 0]⟩)
 term:∀k,k<n->∀(R:Type)(K:KNN R),(sqK R (v k).1 (v k).2 λu1 u2=>jV R (d k).1 (d k).2 λt1 t2=>dV R u1 u2 t1 t2 K)=K (q k).1 (q k).2
def lst(q:Nat->Nat×Nat)(n:Nat):List (Nat×Nat):=(List.range n).map q
theorem qO(q:Nat->Nat×Nat)(n:Nat):(lst q n).length=n:=by unfold lst;simp
theorem bEu(q:Nat->Nat×Nat)(n:Nat):lst q (n+1)=lst q n++[q n]:=by unfold lst;rw[List.range_succ];simp
def fil(q:Nat->Nat×Nat)(n k:Nat):List V9:=bA (lst q k)++List.replicate (n-k) (.complex .f64 0 0)
theorem aD8(a b:List (Nat×Nat)):bA (a++b)=bA a++bA b:=by unfold bA;simp
theorem yF(a:List (Nat×Nat)):(bA a).length=a.length:=by unfold bA;simp
theorem yK(q:Nat->Nat×Nat){n k:Nat}(h:k<=n):(fil q n k).length=n:=by unfold fil;rw[List.length_append,yF,qO,List.length_replicate];omega
theorem zP(q:Nat->Nat×Nat){n k:Nat}(h:k<n):splice (fil q n k) (0+k*1) [.complex .f64 (q k).1 (q k).2]=fil q n (k+1):=by
 have hl:(bA (lst q k)).length=k:=by rw[yF,qO]
 unfold splice fil;rw[show 0+k*1=k by omega];rw[List.take_append_of_le_length (by omega),List.take_of_length_le (by omega),bEu,aD8,List.append_assoc];congr 1;show[V9.complex .f64 (q k).1 (q k).2]++_=[V9.complex .f64 (q k).1 (q k).2]++_;congr 1;rw[show k+[V9.complex .f64 (q k).1 (q k).2].length=k+1 from rfl,List.drop_append,hl,List.drop_eq_nil_of_le (by omega),List.nil_append,List.drop_replicate];congr 1;omega
theorem zQ(q:Nat->Nat×Nat)(n:Nat):yS n=fil q n 0:=by
 unfold yS fil tM lst;simp only[List.range_zero,List.map_nil,bA,List.nil_append,Nat.sub_zero];refine List.ext_getElem (by simp) λi h1 h2=>?_
 simp[Nat.mod_one]
theorem aEa(q:Nat->Nat×Nat)(n:Nat):fil q n n=bA (lst q n):=by unfold fil;rw[Nat.sub_self];simp
theorem oO:∀(l:List (Nat×Nat)),kZ 0 (bA l)=true
 |[]=>rfl
 |x::r=>by show(inn 0 (V9.complex .f64 x.1 x.2)&&kZ 0 (bA r))=true;rw[oO r];rfl
theorem aTk:∀n,kZ 0 (List.replicate n (V9.complex .f64 0 0))=true
 |0=>rfl
 |n+1=>by rw[List.replicate_succ];show(inn 0 (V9.complex .f64 0 0)&&kZ 0 (List.replicate n (V9.complex .f64 0 0)))=true;rw[aTk n];rfl
theorem qY(q:Nat->Nat×Nat)(n k:Nat):kZ 0 (fil q n k)=true:=tC (oO _) (aTk _)
noncomputable def abR(p:Nat×Nat):Cx:=abC 50 aG rSt (rAp P9) vX jJ dV jV sqK [(61,bFy (aQe P9 p))]
theorem aK3(p:Nat×Nat):(abR p).Ok:=
 lS jR (.cons bQo bQj (.cons k84 h84 (.cons k22 h22 (.cons k40 h40 (.cons bXv bXo .nil))))) lY (.cons (aKm p) bZh .nil) .nil (jX .nil)
noncomputable def abS(x y:Nat):Cx:=abT 50 aG rSt (rAp P9) vX jJ dV jV sqK eQ aP [(85,bF (.int .i64 0) (fJ P9 85 (.int .i64 0))),(44,bF (.complex .f64 x y) (fJ P9 44 (.complex .f64 x y)))]
theorem aWo(x y:Nat):(abS x y).Ok:=
 lS jR (.cons bQo bQj (.cons k84 h84 (.cons k22 h22 (.cons k40 h40 (.cons bXv bXo (.cons k39 h39 (.cons k93 h93 .nil))))))) lY (.cons (gL rfl) cDt (.cons (gL rfl) aWd .nil)) .nil (jX .nil)
theorem zA:fP abA=[]:=by kernel_rfl
theorem aWp:Tryz.f48.body=some (bB 48):=by kernel_rfl
section
variable{cs:List V9}{sz m c c1 c2 r n:Nat}{d z v q:Nat->Nat×Nat}
def abH(cs:List V9)(sz m c c1 c2 r n:Nat)(q:Nat->Nat×Nat)(k:Nat):AH:=⟨4,abD m c c1 c2 r++[(3,.cells (fil q n k) 0),(0,.cells cs sz)]⟩
theorem aN1(hcs:kZ 0 cs=true)(h:Abt cs sz m c c1 c2 r n d z v q)(hn:n<100000){k:Nat}(hk:k<n):
  cI P9 1 85 (abH cs sz m c c1 c2 r n q 0) (abE 50 m c n piW k) (abH cs sz m c c1 c2 r n q k) .normal (abE 50 m c n piW (k+1:Nat)) (abH cs sz m c c1 c2 r n q (k+1)) (λQ a w=>abA.wp P9 Q a w):=by
 have hs:aD P9 61 [cW 0 m c,.complex .f64 (z k).1 (z k).2] (abH cs sz m c c1 c2 r n q k) (.tuple ⟨[.complex .f64 (v k).1 (v k).2,.int .i64 0]⟩):=aD.one (b:=0) (h.spd k hk) hcs (by unfold abH abD;simp) rfl;exact bK (C:=abR (v k)) (H0:=abH cs sz m c c1 c2 r n q 0) (e:=abE 50 m c n piW k) (H:=abH cs sz m c c1 c2 r n q k) (n:=60) (ts:=[39,38,13,5,4,2,11,3]) (bo:=[2,1,3]) (bs:=[]) (A:=abD m c c1 c2 r++[(3,.cells (fil q n (k+1)) 0)]) (B:=[(0,.cells cs sz)]) (D:=abD m c c1 c2 r++[(3,.cells (fil q n 0) 0)]) (e1:=abE 50 m c n piW (k+1:Nat)) (O1:=abD m c c1 c2 r++[(3,.cells (fil q n (k+1)) 0)]) (aK3 _) aO zA
  (by
   unfold abR;refine(tP aG _ _ _ _ _ _ _ _ _ cs (fil q n k) sz m c n k c1 c2 r piW _).trans ?_;unfold bJ2;rw[D7 (show(k:Int)<n by omega),T7];have g:=h.gone k hk (Ex×Env×dF);unfold bH2 at g;refine(g _).trans ?_;refine(aDi hs).trans ?_;have t:=h.term k hk (Ex×Env×dF);refine(t _).trans ?_;rw[jN,T7];unfold rSt;rw[iJ (by rw[yK q (by omega)];simp;omega),T7,zP q hk];show aG (Ex×Env×dF) _ _=_;rw[aI,fN (by omega)]) rfl
  (by show fD _ ((2,.cells [.complex .f64 c1 c2,.float .f64 r] 0)::(1,.cells [.slice (some ⟨0,0,none⟩) m c] 0)::[(3,.cells (fil q n (k+1)) 0)])=_;simp only[fD,pN,qJ,nH];rw[bQ (qY q n (k+1))];rfl) rfl rfl rfl rfl rfl
theorem aN0(hn:n<100000):
  cI P9 1 85 (abH cs sz m c c1 c2 r n q 0) (abE 50 m c n piW n) (abH cs sz m c c1 c2 r n q n) (.exit 0) (abE 50 m c n piW n) (abH cs sz m c c1 c2 r n q n) (λQ a w=>abA.wp P9 Q a w):=by
 exact bK (C:=abR (0,0)) (H0:=abH cs sz m c c1 c2 r n q 0) (e:=abE 50 m c n piW n) (H:=abH cs sz m c c1 c2 r n q n) (n:=60) (ts:=[39,38,13,5,4,2,11,3]) (bo:=[2,1,3]) (bs:=[]) (A:=abD m c c1 c2 r++[(3,.cells (fil q n n) 0)]) (B:=[(0,.cells cs sz)]) (D:=abD m c c1 c2 r++[(3,.cells (fil q n 0) 0)]) (e1:=abE 50 m c n piW n) (O1:=abD m c c1 c2 r++[(3,.cells (fil q n n) 0)]) (aK3 _) aO zA
  (by
   unfold abR;refine(tP aG _ _ _ _ _ _ _ _ _ cs (fil q n n) sz m c n n c1 c2 r piW _).trans ?_;unfold bJ2;rw[E7 (by omega),F7]) rfl
  (by show fD _ ((2,.cells [.complex .f64 c1 c2,.float .f64 r] 0)::(1,.cells [.slice (some ⟨0,0,none⟩) m c] 0)::[(3,.cells (fil q n n) 0)])=_;simp only[fD,pN,qJ,nH];rw[bQ (qY q n n)];rfl) rfl rfl rfl rfl rfl
theorem aDp(hcs:kZ 0 cs=true)(h:Abt cs sz m c c1 c2 r n d z v q)(hn:n<100000):
  dH P9 1 85 (abH cs sz m c c1 c2 r n q 0) abA (abE 50 m c n piW (0:Nat)) (abH cs sz m c c1 c2 r n q 0) (.exit 0) (abE 50 m c n piW n) (abH cs sz m c c1 c2 r n q n):=by
 refine fQ (E:=λk:Nat=>abE 50 m c n piW k) (H:=λk=>abH cs sz m c c1 c2 r n q k) n 0 (λk _ hk=>aN1 hcs h hn (by omega)) (gY (by intro h;cases h) ?_);simp only[Nat.zero_add];exact aN0 hn
theorem cBf:Tryz.prog.underlying 82=some (.slice 32):=by kernel_rfl
theorem z32:calm P9 (zeroValue 32)=some (.complex .f64 0 0):=by kernel_rfl
theorem aXa{n:Nat}(h0:1<=n){cs:List V9}(hl:n<=cs.length){k:AH->Option V9}:aB5 P9 1 ⟨4,[(3,.cells cs 0)]⟩ 82 (abV n) k=k (AH.put ⟨4,[(3,.cells cs 0)]⟩ 3 (.cells (splice cs 0 (List.replicate n (.complex .f64 0 0))) 0)):=by
 have hb:Nat.beq n 0=false:=by
  cases hb:Nat.beq n 0 with
  |true=>have:=gO hb;omega
  |false=>rfl
 unfold aB5;simp only[cBf,hb,F7,z32,Option.bind_some];show(bif true&&true&&true&&Nat.ble (0+n) cs.length then _ else none)=_;rw[iJ (show 0+n<=cs.length by omega)];rfl
theorem ab_call{x y u w:Nat}{g:Nat->Nat×Nat}(hcs:kZ 0 cs=true)(h:Abt cs sz m c c1 c2 r n d z v q)(n1:1<=n)(hn:n<=16384)(ha:aD P9 85 [cW 0 m c,ciV c1 c2 r] ⟨1,[(0,.cells cs sz)]⟩ (.int .i64 0))(hs:aGf (lst q n) g)(hx:g n=(x,y))(hl:∀(R:Type)(K:bW6 R),bXx n x y K=K u w true):
  aD P9 48 [cW 0 m c,ciV c1 c2 r,.int .i64 n,aWa 50] ⟨1,[(0,.cells cs sz)]⟩ (.tuple ⟨[.complex .f64 u w,.int .i64 0]⟩):=by
 have hB:=@gG _ _ _ _ _ _ _ _ _ (aDp hcs h (by omega));have ha':aD P9 85 [cW 0 m c,ciV c1 c2 r] ⟨3,abD m c c1 c2 r++[(0,.cells cs sz)]⟩ (.int .i64 0):=aD.one (b:=0) ha hcs (by unfold abD;simp) rfl;have hsum:aD P9 44 [abV n] (abH cs sz m c c1 c2 r n q n) (.complex .f64 x y):=by have:=pS (cs:=bA (lst q n)) (sz:=0) (o:=0) (c:=n) (zs:=lst q n) (f:=g) (mG _) (by rw[qO];omega) hs;rw[qO,hx]at this;refine aD.one (b:=3) this (oO _) ?_ rfl;unfold abH;rw[aEa];simp
 have ht:=aH8 (told P9 (.exit 0) (abE 50 m c n piW n) (abH cs sz m c c1 c2 r n q n)) aG V9 rSt (rAp P9) vX jJ dV jV sqK (fJ P9 85 (.int .i64 0)) (fJ P9 44 (.complex .f64 x y)) eQ cs sz m c n c1 c2 r x y (λd e O=>aOj P9 1 Tryz.f48.results.toList (λv _=>some v) d e ⟨4,O⟩) aP;rw[cO ha',E7 (show ¬((n:Int)<1) by omega),E7 (show ¬((n:Int)>16384) by omega)]at ht;simp only[F7]at ht;rw[D7 (show(0:Int)<=(n:Int) by omega),D7 (show(n:Int)<=(n:Int) by omega),D7 (show(n:Int)<=4294967296 by omega),D7 (show(16:Int)*n<=281474976710656 by omega)]at ht;rw[show(true&&true&&true&&true)=true from rfl,T7,zQ q n]at ht;have ht:=ht.trans (gT @hB _ _);rw[cX]at ht;have ht:=ht.trans (aH7 _ aG _ _ _ _ _ _ _ _ _ _ _ cs (fil q n n) sz m c n n c1 c2 r x y _ _ piW);have ht:=ht.trans (cO hsum);have hl':=hl V9;unfold bXx at hl';have ht:=ht.trans (hl' _);simp only[T7]at ht;have hend:aOj P9 1 Tryz.f48.results.toList (λv _=>some v) (some (82,abV n)) [(8,.complex .f64 u w),(9,.int .i64 0)] ⟨4,[(3,.cells (fil q n n) 0)]⟩=some (.tuple ⟨[.complex .f64 u w,.int .i64 0]⟩):=by unfold aOj;simp only;rw[aXa n1 (Nat.le_of_eq (yK q (Nat.le_refl n)).symm)];rfl
 have ht:=ht.trans hend;exact aL6 (C:=abS x y) (n:=60) (H:=⟨1,[(0,.cells cs sz)]⟩) (args:=[cW 0 m c,ciV c1 c2 r,.int .i64 n,aWa 50]) (aWo x y) aO Tryz.func48 aWp (L:=eS [39,38,13,5,4,2,11,3] [2,1,3,0] (told P9 (.exit 0) (abE 50 m c n piW n) (abH cs sz m c c1 c2 r n q n))) (λ_ a _=>dJ (gN _ _ _ _ a)) (kK rfl) (λd e H v h=>aRp (nx:=4) h) ht rfl
end
section
variable(fi:Fi)(R:Type)(st:St)(ap:Ap)(wi:aNo)(gc:HT)(cs:List V9)(sz o n c j c1 c2 r x y:Nat)(e:Int)(K:Ex->Env->dF->Option R)
theorem bOj:bE (akC fi st ap wi [(48,bF (.tuple ⟨[.complex .f64 x y,.int .i64 e]⟩) gc)] []) 60 noL 1 14 (bB 13) (gX 0 [cW o n c,ciV c1 c2 r,.int .i64 j]) ⟨1,[(0,.cells cs sz)]⟩ (aU [6,7] [] K) =
  gc R [cW o n c,ciV c1 c2 r,.int .i64 j,aWa 50] ⟨3,[(2,.cells [.complex .f64 c1 c2,.float .f64 r] 0),(1,.cells [.slice (some ⟨0,o,none⟩) n c] 0),(0,.cells cs sz)]⟩ (K .ret [(6,.complex .f64 x y),(7,.int .i64 e)] []):=by kernel_rfl
end
theorem bBn:Tryz.f13.body=some (bB 13):=by kernel_rfl
theorem cDp:Has P9 48:=⟨Tryz.f48,_,Tryz.func48,by kernel_rfl,rfl⟩
section
variable{cs:List V9}{sz o n c j c1 c2 r x y:Nat}{e:Int}
theorem aQk(hf:kZ 0 cs=true)(hc:aD P9 48 [cW o n c,ciV c1 c2 r,.int .i64 j,aWa 50] ⟨1,[(0,.cells cs sz)]⟩ (reV x y e)):aD P9 13 [cW o n c,ciV c1 c2 r,.int .i64 j] ⟨1,[(0,.cells cs sz)]⟩ (reV x y e):=by
 have hc':aD P9 48 [cW o n c,ciV c1 c2 r,.int .i64 j,aWa 50] ⟨3,[(2,.cells [.complex .f64 c1 c2,.float .f64 r] 0),(1,.cells [.slice (some ⟨0,o,none⟩) n c] 0),(0,.cells cs sz)]⟩ (reV x y e):=aD.one (b:=0) hc hf (by simp) rfl;have h:=bOj aG (Ex×Env×dF) rSt (rAp P9) jQ (fJ P9 48 (reV x y e)) cs sz o n c j c1 c2 r x y e λex e O=>some (ex,e,O)
 rw[cO hc']at h;exact fK (C:=akR [(48,bF (reV x y e) (fJ P9 48 (reV x y e)))] []) (args:=[cW o n c,ciV c1 c2 r,.int .i64 j]) (H:=⟨1,[(0,.cells cs sz)]⟩) (aWs (.cons (gL rfl) cDp .nil) .nil) aO (L:=noL) Tryz.func13 bBn (λa _=>qU) (kK rfl) h (.inr rfl) (vs:=[.complex .f64 x y,.int .i64 e]) rfl rfl
end
abbrev KSg:=∀R:Type,Int->Nat->Nat->Nat->Nat->Nat->(Bool->Option R)->Option R
def sSg(g:KSg):Sum:=λR args k=>match args with
 |[.agg ⟨[.int .u8 kind,.complex .f64 a1 a2,.complex .f64 s1 s2,.float .f64 p]⟩]=>g R kind a1 a2 s1 s2 p λt=>bif t then k (.bool true) else k (.bool false)
 |_=>none
abbrev KDv:=∀R:Type,Int->Nat->Nat->Nat->Nat->Nat->Nat->Nat->Int->(Nat->Nat->Option R)->Option R
def sDv(g:KDv):Sum:=λR args k=>match args with
 |[.agg ⟨[.int .u8 kind,.complex .f64 a1 a2,.complex .f64 s1 s2,.float .f64 p]⟩,.complex .f64 z1 z2,.int .i64 n]=>g R kind a1 a2 s1 s2 p z1 z2 n λx y=>k (.complex .f64 x y)
 |_=>none
abbrev KPr:=∀R:Type,Int->Int->(Nat->Option R)->Option R
def sPr(g:KPr):Sum:=λR args k=>match args with
 |[.int .i64 a,.int .i64 b]=>g R a b λw=>k (.float .f64 w)
 |_=>none
def bYm:H9->H9
 |.block _ c=>c
 |c=>c
def cGi:H9->H9
 |.seq a _=>a
 |c=>c
noncomputable def sqA:H9:=sI (bB 11) 0
noncomputable def sqB:H9:=sI sqA 0
noncomputable def sqX:H9:=bYm (cGi (lJ 2 sqA))
def cGu:V9:=.func (.func 39) #[] #[.pointer (some ⟨2,0,none⟩)]
noncomputable def sqC(lim:Nat->Bool)(fi:Fi)(ge:GEl)(st:St)(ap:Ap)(sg:KSg)(si:KSi)(dv:KDv)(pr:KPr)(ov ng:KCC)(mu:gU)(sc:mO)(fn:KCB)(gl:List (Nat×vP)):Cx:=
 cxM fi P9 (λ_ _=>none) [(40,sSg sg),(41,sSi si),(42,sDv dv),(46,sPr pr),(37,sCC ov),(45,sCC ng),(43,jH mu),(15,tF sc),(91,sCB fn)] [] gl [] (aPh lim [(39,gEl ge)] st ap)
def soE(n c:Nat)(l:V9)(k:Int):Env:=[(25,.int .i64 k),(24,.int .i64 n),(23,.slice (some ⟨0,0,none⟩) n c),(2,.pointer (some ⟨1,0,none⟩)),(3,.pointer (some ⟨2,0,none⟩)),(7,cGu),(8,l)]
def siE(n c bx:Nat)(pw:Int)(l:V9)(h:Int)(o:V9)(k:Int):Env:=(39,.int .i64 k)::(38,.int .i64 n)::(37,.slice (some ⟨0,0,none⟩) n c)::(11,.int .i64 pw)::(10,.pointer (some ⟨bx,0,none⟩))::(12,o)::soE n c l h
def xb(bx:Nat)(xk:Int)(x1 x2 y1 y2 xp:Nat):Nat×qQ:=(bx,.cells [.int .u8 xk,.complex .f64 x1 x2,.complex .f64 y1 y2,.float .f64 xp] 0)
def wiX{R:Type}(sg:KSg)(si:KSi)(kind:Int)(a1 a2 s1 s2 p c1 c2 r:Nat)(yes no:Option R):Option R:=
 sg R kind a1 a2 s1 s2 p λt=>bif t then si R kind a1 a2 c1 c2 r λv=>bif decide (v<0) then yes else no else no
def siT:List Nat:=[39,38,37,11,10,12,25,24,23,2,3,7,8]
def soT:List Nat:=[25,24,23,2,3,7,8]
section
variable(L:qR)(fi:Fi)(R:Type)(ge:GEl)(st:St)(ap:Ap)(sg:KSg)(si:KSi)(dv:KDv)(pr:KPr)(ov ng:KCC)(mu:gU)(sc:mO)(fn:KCB)(ga gs:HT)(cs os ls:List V9)(sz n c j i0 k h c1 c2 r x1 x2 y1 y2 xp z1 z2:Nat)(xk pw:Int)(K:Ex->Env->dF->Option R)
theorem bUb:bE (sqC la0 fi ge st ap sg si dv pr ov ng mu sc fn []) 60 (eS siT [3,2,1,0] L) 1 89 sqA (soE n c bL h) ⟨3,abD n c c1 c2 r++[(0,.cells cs sz)]⟩ (aU soT [2,1] K) =
  bif decide ((h:Int)<n) then
   bif decide (0<=(h:Int))&&decide ((h:Int)<n)&&true then
    ge R cs (0+h*4) λkind a1 a2 s1 s2 p=>wiX sg si kind a1 a2 s1 s2 p c1 c2 r
     ((J9 .f64 p .i64).bind λm=>fi R m λm=>L R 1 89 sqB (siE n c 3 m bL h bL 0) ⟨4,xb 3 kind a1 a2 s1 s2 p::((abD n c c1 c2 r++[(0,.cells cs sz)]))⟩
      (fS 2 (jP (λen H=>bE (sqC la0 fi ge st ap sg si dv pr ov ng mu sc fn []) 60 (eS siT [3,2,1,0] L) 1 89 (lJ 5 sqX) en H (fS 1 (jP (λen H=>bE (sqC la0 fi ge st ap sg si dv pr ov ng mu sc fn []) 60 (eS siT [3,2,1,0] L) 1 89 (lJ 3 sqA) en H (aU soT [2,1] K)) (aU soT [2,1] K)))) (fS 1 (jP (λen H=>bE (sqC la0 fi ge st ap sg si dv pr ov ng mu sc fn []) 60 (eS siT [3,2,1,0] L) 1 89 (lJ 3 sqA) en H (aU soT [2,1] K)) (aU soT [2,1] K))))))
     (fi R (K9.i64.wrap (h+1)) λi=>K .normal (soE n c bL i) (abD n c c1 c2 r))
   else none
  else K (.exit 0) (soE n c bL h) (abD n c c1 c2 r):=by kernel_rfl
theorem bIr:bE (sqC oa3 fi ge st ap sg si dv pr ov ng mu sc fn []) 60 (eS siT [4,3,2,1,0] L) 1 89 sqA (soE n c (sl3 3 i0) h) ⟨4,(3,.cells ls 1)::(abD n c c1 c2 r++[(0,.cells cs sz)])⟩ (aU soT [3,2,1] K) =
  bif decide ((h:Int)<n) then
   bif decide (0<=(h:Int))&&decide ((h:Int)<n)&&true then
    ge R cs (0+h*4) λkind a1 a2 s1 s2 p=>wiX sg si kind a1 a2 s1 s2 p c1 c2 r
     ((J9 .f64 p .i64).bind λm=>fi R m λm=>L R 1 89 sqB (siE n c 4 m (sl3 3 i0) h bL 0) ⟨5,xb 4 kind a1 a2 s1 s2 p::((3,.cells ls 1)::(abD n c c1 c2 r++[(0,.cells cs sz)]))⟩
      (fS 2 (jP (λen H=>bE (sqC oa3 fi ge st ap sg si dv pr ov ng mu sc fn []) 60 (eS siT [4,3,2,1,0] L) 1 89 (lJ 5 sqX) en H (fS 1 (jP (λen H=>bE (sqC oa3 fi ge st ap sg si dv pr ov ng mu sc fn []) 60 (eS siT [4,3,2,1,0] L) 1 89 (lJ 3 sqA) en H (aU soT [3,2,1] K)) (aU soT [3,2,1] K)))) (fS 1 (jP (λen H=>bE (sqC oa3 fi ge st ap sg si dv pr ov ng mu sc fn []) 60 (eS siT [4,3,2,1,0] L) 1 89 (lJ 3 sqA) en H (aU soT [3,2,1] K)) (aU soT [3,2,1] K))))))
     (fi R (K9.i64.wrap (h+1)) λi=>K .normal (soE n c (sl3 3 i0) i) ((3,.cells ls 1)::abD n c c1 c2 r))
   else none
  else K (.exit 0) (soE n c (sl3 3 i0) h) ((3,.cells ls 1)::abD n c c1 c2 r):=by kernel_rfl
end
section
variable(L:qR)(fi:Fi)(R:Type)(ge:GEl)(st:St)(ap:Ap)(sg:KSg)(si:KSi)(dv:KDv)(pr:KPr)(ov ng:KCC)(mu:gU)(sc:mO)(fn:KCB)(ga gs:HT)(cs:List V9)(sz n c k c1 c2 r z1 z2:Nat)(l:V9)(K:Ex->Env->dF->Option R)
theorem cAz:bE (sqC la0 fi ge st ap sg si dv pr ov ng mu sc fn [(38,bF (.int .i64 0) ga),(44,bF (.complex .f64 z1 z2) gs)]) 60 (eS soT [2,1,0] L) 1 89 (bB 11) (gX 0 [cW 0 n c,ciV c1 c2 r]) ⟨1,[(0,.cells cs sz)]⟩ (aU [4,5] [] K) =
  ga R [cW 0 n c,ciV c1 c2 r,.bool true] ⟨3,abD n c c1 c2 r++[(0,.cells cs sz)]⟩ (L R 1 89 sqA (soE n c bL 0) ⟨3,abD n c c1 c2 r++[(0,.cells cs sz)]⟩
   (fS 0 (jP (λen H=>bE (sqC la0 fi ge st ap sg si dv pr ov ng mu sc fn [(38,bF (.int .i64 0) ga),(44,bF (.complex .f64 z1 z2) gs)]) 60 (eS soT [2,1,0] L) 1 89 (lJ 5 (bB 11)) en H (aU [4,5] [] K)) (aU [4,5] [] K)))):=by kernel_rfl
theorem cAy(H:AH):bE (sqC la0 fi ge st ap sg si dv pr ov ng mu sc fn [(38,bF (.int .i64 0) ga),(44,bF (.complex .f64 z1 z2) gs)]) 60 L 1 89 (lJ 5 (bB 11)) (soE n c l k) H (aU [4,5] [] K) =
  gs R [l] H (sc R z1 z2 4611686018427387904 λu v=>fn R u v λt=>bif t then K .ret [(4,.complex .f64 u v),(5,.int .i64 0)] [] else K .ret [(4,.complex .f64 0 0),(5,.int .i64 6)] []):=by kernel_rfl
end
def mM:Nat->List Bool
 |11=>[false,true,true]|12=>[true,false,false]|13=>[true,false,true]|14=>[true,true,false]|15=>[true,true,true]|16=>[false,false,false,false]|17=>[false,false,false,true]|_=>[]
def mV:KW:=λR a b n k=>
 bif n==11 then gR dV a b (mM 11) a b k else bif n==12 then gR dV a b (mM 12) a b k else bif n==13 then gR dV a b (mM 13) a b k else bif n==14 then gR dV a b (mM 14) a b k else bif n==15 then gR dV a b (mM 15) a b k else bif n==16 then gR dV a b (mM 16) a b k else bif n==17 then gR dV a b (mM 17) a b k else lL R a b n k
theorem cBm(mul:gU)(R:Type) a b (k:KVO R):fC (cx P9 [(43,jH mul)]) 60 90 [.complex .f64 a b,.int .i64 11] k=gR mul a b (mM 11) a b λx y=>k (.complex .f64 x y):=by kernel_rfl
theorem cBn(mul:gU)(R:Type) a b (k:KVO R):fC (cx P9 [(43,jH mul)]) 60 90 [.complex .f64 a b,.int .i64 12] k=gR mul a b (mM 12) a b λx y=>k (.complex .f64 x y):=by kernel_rfl
theorem cBo(mul:gU)(R:Type) a b (k:KVO R):fC (cx P9 [(43,jH mul)]) 60 90 [.complex .f64 a b,.int .i64 13] k=gR mul a b (mM 13) a b λx y=>k (.complex .f64 x y):=by kernel_rfl
theorem cBp(mul:gU)(R:Type) a b (k:KVO R):fC (cx P9 [(43,jH mul)]) 60 90 [.complex .f64 a b,.int .i64 14] k=gR mul a b (mM 14) a b λx y=>k (.complex .f64 x y):=by kernel_rfl
theorem cBq(mul:gU)(R:Type) a b (k:KVO R):fC (cx P9 [(43,jH mul)]) 60 90 [.complex .f64 a b,.int .i64 15] k=gR mul a b (mM 15) a b λx y=>k (.complex .f64 x y):=by kernel_rfl
theorem cBr(mul:gU)(R:Type) a b (k:KVO R):fC (cx P9 [(43,jH mul)]) 60 90 [.complex .f64 a b,.int .i64 16] k=gR mul a b (mM 16) a b λx y=>k (.complex .f64 x y):=by kernel_rfl
theorem cBs(mul:gU)(R:Type) a b (k:KVO R):fC (cx P9 [(43,jH mul)]) 60 90 [.complex .f64 a b,.int .i64 17] k=gR mul a b (mM 17) a b λx y=>k (.complex .f64 x y):=by kernel_rfl
theorem bId:cH P9 90 (sKW mV):=by
 intro R args k r hr;unfold sKW at hr;split at hr
 ·rename_i a b n;unfold mV at hr;have use:∀{i:Int}{l:List Bool},(∀(R:Type)(k:KVO R),fC (cx P9 [(43,jH dV)]) 60 90 [.complex .f64 a b,.int .i64 i] k=gR dV a b l a b λx y=>k (.complex .f64 x y))->n=i->gR dV a b l a b (λx y=>k (.complex .f64 x y))=some r->
    kZ 0 [V9.complex .f64 a b,.int .i64 n]=true/\∃v,k v=some r/\flat v=true/\∀w,Calls P9 90 ⟨[.complex .f64 a b,.int .i64 n]⟩ w λe w'=>e=.returned v/\RowKit.Below w.heap.size w w':=λ{i l} h hn hr=>by
   subst hn;exact⟨rfl,cD (aGi (.cons k22 h22 .nil)) aO ((h R k).trans hr) rfl⟩
  cases h11:(n==11) with
  |true=>rw[h11]at hr;exact use (cBm dV · a b ·) (by simpa using h11) hr
  |false=>
  rw[h11,F7]at hr;cases h12:(n==12) with
  |true=>rw[h12]at hr;exact use (cBn dV · a b ·) (by simpa using h12) hr
  |false=>
  rw[h12,F7]at hr;cases h13:(n==13) with
  |true=>rw[h13]at hr;exact use (cBo dV · a b ·) (by simpa using h13) hr
  |false=>
  rw[h13,F7]at hr;cases h14:(n==14) with
  |true=>rw[h14]at hr;exact use (cBp dV · a b ·) (by simpa using h14) hr
  |false=>
  rw[h14,F7]at hr;cases h15:(n==15) with
  |true=>rw[h15]at hr;exact use (cBq dV · a b ·) (by simpa using h15) hr
  |false=>
  rw[h15,F7]at hr;cases h16:(n==16) with
  |true=>rw[h16]at hr;exact use (cBr dV · a b ·) (by simpa using h16) hr
  |false=>
  rw[h16,F7]at hr;cases h17:(n==17) with
  |true=>rw[h17]at hr;exact use (cBs dV · a b ·) (by simpa using h17) hr
  |false=>
  rw[h17,F7]at hr;exact aBl R [.complex .f64 a b,.int .i64 n] k r hr
 ·cases hr
def aMu:List (Int×Int×Nat):=[(1,0,4607182418800017408),(1,1,4607182418800017408),(1,2,4611686018427387904),(1,3,4618441417868443648),(1,4,4627448617123184640),(1,5,4638144666238189568),(1,6,4649544402794971136),(1,7,4662263553305083904),(1,8,4675774352187195392),(1,9,4689977843394805760),(2,2,4611686018427387904),(2,3,4618441417868443648),(2,4,4627448617123184640),(2,5,4638144666238189568),(2,6,4649544402794971136),(2,7,4662263553305083904),(2,8,4675774352187195392),(2,9,4689977843394805760),(2,10,4705047200009289728),(3,3,4613937818241073152),(3,4,4622945017495814144),(3,5,4633641066610819072),(3,6,4645040803167600640),(3,7,4657759953677713408),(3,8,4671270752559824896),(3,9,4685474243767435264),(3,10,4700543600381919232),(3,11,4716122752434569216),(4,4,4616189618054758400),(4,5,4626322717216342016),(4,6,4638144666238189568),(4,7,4650599933957636096),(4,8,4664110732839747584),(4,9,4678545121489190912),(4,10,4693442404533927936),(4,11,4708901400581505024),(4,12,4725129951689310208),(5,5,4617315517961601024),(5,6,4629137466983448576),(5,7,4641592734702895104),(5,8,4655103533585006592),(5,9,4669537922234449920),(5,10,4684435205279186944),(5,11,4699894201326764032),(5,12,4716122752434569216),(5,13,4732982015194824704),(6,6,4618441417868443648),(6,7,4631107791820423168),(6,8,4644618590702534656),(6,9,4658868261398511616),(6,10,4674041521861820416),(6,11,4689458324150681600),(6,12,4705826478875475968),(6,13,4722233614723448832),(6,14,4739377412624613376),(7,7,4619567317775286272),(7,8,4633078116657397760),(7,9,4647574077957996544),(7,10,4662263553305083904),(7,11,4677852429163692032),(7,12,4693961923778052096),(7,13,4710904813846528000),(7,14,4727898015161909248),(7,15,4745404563316539392),(8,8,4620693217682128896),(8,9,4634766966517661696),(8,10,4649544402794971136),(8,11,4665430146793078784),(8,12,4681267512279564288),(8,13,4698057329713610752),(8,14,4715408413473898496),(8,15,4732982015194824704),(8,16,4750996413704306688)]
def aEm(a b:Int):List (Int×Int×Nat)->Option Nat
 |[]=>none
 |(x,y,w)::r=>bif x==a&&y==b then some w else aEm a b r
noncomputable def bXa:List (Int×Int×Nat)->Bool
 |[]=>true
 |(a,b,w)::r=>(match fC (cxm P9 hot) 60 46 [.int .i64 a,.int .i64 b] some with|some (.float .f64 x)=>Nat.beq x w|_=>false)&&bXa r
theorem aLn{a b:Int}{w:Nat}:∀{l:List (Int×Int×Nat)},bXa l=true->aEm a b l=some w->fC (cxm P9 hot) 60 46 [.int .i64 a,.int .i64 b] some=some (.float .f64 w)
 |[],_,h=>by cases h
 |(x,y,v)::r,hc,h=>by
  unfold bXa at hc;simp only[Bool.and_eq_true]at hc;unfold aEm at h;cases hb:(x==a&&y==b) with
  |true=>
   rw[hb]at h;cases h;simp only[Bool.and_eq_true,beq_iff_eq]at hb;obtain⟨rfl,rfl⟩:=hb;have h1:=hc.1;split at h1;· rename_i z hz;rw[hz,gO h1]
   ·cases h1
  |false=>rw[hb]at h;exact aLn hc.2 h
theorem bFq:bXa aMu=true:=by kernel_rfl
def gF:KPr:=λR a b k=>(aEm a b aMu).bind k
theorem cDo:Has P9 46:=⟨Tryz.f46,_,Tryz.func46,by kernel_rfl,rfl⟩
theorem cEe:cH P9 46 (sPr gF):=by
 intro R args k r hr;unfold sPr at hr;split at hr;· rename_i a b;unfold gF at hr;obtain⟨w,h1,h2⟩:=aB hr;obtain⟨v,g1,g2,g3⟩:=cD (aD9 aEh) aO (aLn bFq h1) rfl;cases g1;exact⟨rfl,_,h2,g2,g3⟩
 ·cases hr
def sgK:KSg:=λR kind a1 a2 s1 s2 p k=>bif kind==1||kind==2||kind==3||kind==4 then cT cK cJ bJ eC R kind a1 a2 s1 s2 p λe=>bif e != 0 then k false else
 bif kind==1 then k false else bif kind==2 then eQ R s1 s2 4594902181429758083 λ_ _=>k true else bif kind==3 then(J9 .f64 p .i64).bind λm=>aG R m λ_=>k true
 else bif kind==4 then eC R p λt=>bif t then(J9 .f64 p .i64).bind λm=>aG R m λ_=>k false else bif ltF p 4607182418800017408 then k true else k false else none else none
theorem cCe(chk:KEI)(wh:KFB)(sc:mO)(R:Type)(a1 a2 s1 s2 p:Nat)(k:KVO R):fC (cxv P9 [(84,sEI chk),(114,sFB wh),(15,tF sc),(70,sPi)]) 60 40 [el 1 a1 a2 s1 s2 p] k=chk R 1 a1 a2 s1 s2 p λe=>bif e != 0 then k (.bool false) else k (.bool false):=by kernel_rfl
theorem cCf(chk:KEI)(wh:KFB)(sc:mO)(R:Type)(a1 a2 s1 s2 p:Nat)(k:KVO R):fC (cxv P9 [(84,sEI chk),(114,sFB wh),(15,tF sc),(70,sPi)]) 60 40 [el 2 a1 a2 s1 s2 p] k=chk R 2 a1 a2 s1 s2 p λe=>bif e != 0 then k (.bool false) else sc R s1 s2 4594902181429758083 λ_ _=>k (.bool true):=by kernel_rfl
theorem cCg(chk:KEI)(wh:KFB)(sc:mO)(R:Type)(a1 a2 s1 s2 p:Nat)(k:KVO R):fC (cxv P9 [(84,sEI chk),(114,sFB wh),(15,tF sc),(70,sPi)]) 60 40 [el 3 a1 a2 s1 s2 p] k=chk R 3 a1 a2 s1 s2 p λe=>bif e != 0 then k (.bool false) else(J9 .f64 p .i64).bind λm=>aG R m λ_=>k (.bool true):=by kernel_rfl
theorem cCh(chk:KEI)(wh:KFB)(sc:mO)(R:Type)(a1 a2 s1 s2 p:Nat)(k:KVO R):fC (cxv P9 [(84,sEI chk),(114,sFB wh),(15,tF sc),(70,sPi)]) 60 40 [el 4 a1 a2 s1 s2 p] k=chk R 4 a1 a2 s1 s2 p λe=>bif e != 0 then k (.bool false) else wh R p λt=>bif t then(J9 .f64 p .i64).bind λm=>aG R m λ_=>k (.bool false) else bif ltF p 4607182418800017408 then k (.bool true) else k (.bool false):=by kernel_rfl
theorem cFl:Has P9 40:=⟨Tryz.f40,_,Tryz.func40,by kernel_rfl,rfl⟩
theorem bF0:(cxv P9 [(84,sEI (cT cK cJ bJ eC)),(114,sFB eC),(15,tF eQ),(70,sPi)]).Ok:=qS (.cons kI mN (.cons aJe yM (.cons k39 h39 (.cons bMi bL5 .nil))))
theorem cF1:cH P9 40 (sSg sgK):=by
 intro R args k r hr;unfold sSg at hr;split at hr
 ·rename_i kind a1 a2 s1 s2 p;have hr:sgK R kind a1 a2 s1 s2 p (λt=>k (.bool t))=some r:=by rw[<-hr];congr 1;funext t;cases t<;>rfl
  unfold sgK at hr;cases h1:(kind==1) with
  |true=>
   have e:kind=1:=by simpa using h1
   subst e;exact⟨rfl,cD bF0 aO ((cCe _ eC eQ R a1 a2 s1 s2 p k).trans hr) rfl⟩
  |false=>
  rw[h1]at hr;cases h2:(kind==2) with
  |true=>
   have e:kind=2:=by simpa using h2
   subst e;exact⟨rfl,cD bF0 aO ((cCf _ eC eQ R a1 a2 s1 s2 p k).trans hr) rfl⟩
  |false=>
  rw[h2]at hr;cases h3:(kind==3) with
  |true=>
   have e:kind=3:=by simpa using h3
   subst e;exact⟨rfl,cD bF0 aO ((cCg _ eC eQ R a1 a2 s1 s2 p k).trans hr) rfl⟩
  |false=>
  rw[h3]at hr;cases h4:(kind==4) with
  |true=>
   have e:kind=4:=by simpa using h4
   subst e;exact⟨rfl,cD bF0 aO ((cCh _ eC eQ R a1 a2 s1 s2 p k).trans hr) rfl⟩
  |false=>
  rw[h4]at hr;cases hr
 ·cases hr
section
variable{R:Type}(fi:Fi)(pr:KPr)(W:KW)(ov:KCC)(sub div mul:gU)(sc:mO)(s1 s2 d1 d2:Nat)(m n t:Int)(k:KNN R)
def dv2(SG:Nat):Option R:=
 ov R s1 s2 λo1 o2=>pr R 1 n λw=>aM (fbF .mul SG w) λv=>sc R o1 o2 v λu1 u2=>fi R (K9.i64.wrap (n+1)) λi=>W R d1 d2 i λx y=>div R u1 u2 x y k
def dv3(SG:Nat):Option R:=
 fi R (K9.i64.wrap (m+n)) λq=>pr R m q λw=>aM (fbF .mul SG w) λv=>sc R s1 s2 v λu1 u2=>fi R (K9.i64.wrap (m+1)) λi=>fi R (K9.i64.wrap (i+n)) λi=>W R d1 d2 i λx y=>div R u1 u2 x y k
def dv4:Option R:=
 bif decide (n<m) then fi R (K9.i64.wrap (m-n)) λq=>pr R q m λw=>sc R s1 s2 w λu1 u2=>fi R (K9.i64.wrap (m-1)) λi=>fi R (K9.i64.wrap (i-n)) λi=>W R d1 d2 i λx y=>mul R u1 u2 x y k
 else k 0 0
def dv1:Option R:=bif n==0 then k s1 s2 else k 0 0
end
def dvB(fi:Fi)(pr:KPr)(W:KW)(ov:KCC)(sub div mul:gU)(sc:mO):KDv:=λR kind a1 a2 s1 s2 p z1 z2 n k=>
 bif kind==1||kind==2||kind==3||kind==4 then
 sub R z1 z2 a1 a2 λd1 d2=>(J9 .f64 p .i64).bind λm=>fi R m λm=>fi R (n.tmod 2) λt=>
  bif kind==2 then(bif t==1 then dv2 fi pr W ov div sc s1 s2 d1 d2 n k 13830554455654793216 else dv2 fi pr W ov div sc s1 s2 d1 d2 n k 4607182418800017408)
  else bif kind==3 then(bif t==1 then dv3 fi pr W div sc s1 s2 d1 d2 m n k 4607182418800017408 else dv3 fi pr W div sc s1 s2 d1 d2 m n k 13830554455654793216)
  else bif kind==4 then(bif t==1 then dv4 fi pr W mul sc s1 s2 d1 d2 m n k else dv4 fi pr W mul sc s1 s2 d1 d2 m n k)
  else(bif t==1 then dv1 s1 s2 n k else dv1 s1 s2 n k)
 else none
theorem cB2(fi:Fi)(pr:KPr)(W:KW)(ov:KCC)(sub div mul:gU)(sc:mO)(R:Type)(a1 a2 s1 s2 p z1 z2:Nat)(n:Int)(k:KVO R):fC (cxf fi P9 [(35,jH sub),(37,sCC ov),(46,sPr pr),(15,tF sc),(90,sKW W),(89,jH div),(43,jH mul)] []) 60 42 [el 1 a1 a2 s1 s2 p,.complex .f64 z1 z2,.int .i64 n] k=dvB fi pr W ov sub div mul sc R 1 a1 a2 s1 s2 p z1 z2 n λx y=>k (.complex .f64 x y):=by kernel_rfl
theorem cB3(fi:Fi)(pr:KPr)(W:KW)(ov:KCC)(sub div mul:gU)(sc:mO)(R:Type)(a1 a2 s1 s2 p z1 z2:Nat)(n:Int)(k:KVO R):fC (cxf fi P9 [(35,jH sub),(37,sCC ov),(46,sPr pr),(15,tF sc),(90,sKW W),(89,jH div),(43,jH mul)] []) 60 42 [el 2 a1 a2 s1 s2 p,.complex .f64 z1 z2,.int .i64 n] k=dvB fi pr W ov sub div mul sc R 2 a1 a2 s1 s2 p z1 z2 n λx y=>k (.complex .f64 x y):=by kernel_rfl
theorem cB4(fi:Fi)(pr:KPr)(W:KW)(ov:KCC)(sub div mul:gU)(sc:mO)(R:Type)(a1 a2 s1 s2 p z1 z2:Nat)(n:Int)(k:KVO R):fC (cxf fi P9 [(35,jH sub),(37,sCC ov),(46,sPr pr),(15,tF sc),(90,sKW W),(89,jH div),(43,jH mul)] []) 60 42 [el 3 a1 a2 s1 s2 p,.complex .f64 z1 z2,.int .i64 n] k=dvB fi pr W ov sub div mul sc R 3 a1 a2 s1 s2 p z1 z2 n λx y=>k (.complex .f64 x y):=by kernel_rfl
theorem cB5(fi:Fi)(pr:KPr)(W:KW)(ov:KCC)(sub div mul:gU)(sc:mO)(R:Type)(a1 a2 s1 s2 p z1 z2:Nat)(n:Int)(k:KVO R):fC (cxf fi P9 [(35,jH sub),(37,sCC ov),(46,sPr pr),(15,tF sc),(90,sKW W),(89,jH div),(43,jH mul)] []) 60 42 [el 4 a1 a2 s1 s2 p,.complex .f64 z1 z2,.int .i64 n] k=dvB fi pr W ov sub div mul sc R 4 a1 a2 s1 s2 p z1 z2 n λx y=>k (.complex .f64 x y):=by kernel_rfl
def dvK:KDv:=dvB aG gF mV reH gJ rN dV eQ
theorem cFm:Has P9 42:=⟨Tryz.f42,_,Tryz.func42,by kernel_rfl,rfl⟩
theorem bDs:(cxf aG P9 [(35,jH gJ),(37,sCC reH),(46,sPr gF),(15,tF eQ),(90,sKW mV),(89,jH rN),(43,jH dV)] []).Ok:=
 aGi (.cons k21 h21 (.cons cDv cC1 (.cons cEe cDo (.cons k39 h39 (.cons bId zS (.cons aSf aR3 (.cons k22 h22 .nil)))))))
theorem cF2:cH P9 42 (sDv dvK):=by
 intro R args k r hr;unfold sDv at hr;split at hr
 ·rename_i kind a1 a2 s1 s2 p z1 z2 n;cases h1:(kind==1) with
  |true=>
   have e:kind=1:=by simpa using h1
   subst e;exact⟨rfl,cD bDs aO ((cB2 aG gF mV reH gJ rN dV eQ R a1 a2 s1 s2 p z1 z2 n k).trans hr) rfl⟩
  |false=>
  cases h2:(kind==2) with
  |true=>
   have e:kind=2:=by simpa using h2
   subst e;exact⟨rfl,cD bDs aO ((cB3 aG gF mV reH gJ rN dV eQ R a1 a2 s1 s2 p z1 z2 n k).trans hr) rfl⟩
  |false=>
  cases h3:(kind==3) with
  |true=>
   have e:kind=3:=by simpa using h3
   subst e;exact⟨rfl,cD bDs aO ((cB4 aG gF mV reH gJ rN dV eQ R a1 a2 s1 s2 p z1 z2 n k).trans hr) rfl⟩
  |false=>
  cases h4:(kind==4) with
  |true=>
   have e:kind=4:=by simpa using h4
   subst e;exact⟨rfl,cD bDs aO ((cB5 aG gF mV reH gJ rN dV eQ R a1 a2 s1 s2 p z1 z2 n k).trans hr) rfl⟩
  |false=>
  unfold dvK dvB at hr;rw[h1,h2,h3,h4]at hr;cases hr
 ·cases hr
open Ieee
theorem zW{B:Rat}(h:1/1000000<=B):(2:Rat)^(-1000:Int)<=B:=by have h1:=cY (show(-1000:Int)<=-20 by decide);rw[aPt]at h1;grind
theorem aXl{q y x A D Q:Rat}(e:q*y=x)(hx:x.abs<=A)(hy:D<=y.abs)(hD:0<D)(hQ:A<=Q*D)(hQ0:0<=Q):q.abs<=Q:=by
 have h1:q.abs*y.abs<=Q*y.abs:=by rw[<-bD,e];have:=dI hy hQ0;grind
 exact Rat.le_of_mul_le_mul_right h1 (by grind)
theorem bIu:Is 4607182418800017408 (1:Rat):=l1
theorem aYo{a:Nat}{x:Rat}(h:Is a x)(hx:0<x):∃(w:Nat)(n:Int)(v:Rat),Is w v/\v=x*(2:Rat)^(-n)/\1/2<=v/\v<=1/\(2:Rat)^(n-1)<=x/\x<(2:Rat)^n/\-1100<=n/\n<=1024/\
  ∀(R:Type)(k:Nat->Int->Option R),mR R a k=k w n:=by
 have hx0:x≠0:=by grind
 have hxa:x.abs=x:=fZ (by grind);obtain⟨y,e,he,hy,hn,hk⟩:=aJr h hx0;obtain⟨s,E,f,rfl,b1,b2,b3,hv⟩:=oW hy hn;have hs:s=false:=yG (m:=2^52+f) (i:=(E:Int)-1075) (by rw[<-hv];exact Rat.mul_pos hx (bG _));subst hs;obtain⟨d1,d2⟩:=aA9 (s:=false) (E:=E) b3;rw[<-hv,bD,sK,hxa]at d1 d2;obtain⟨g1,g2⟩:=aA9 (s:=false) (E:=1022) b3;have hi:=oQ (s:=false) (E:=1022) (f:=f) (by decide) (by decide) b3;have hp:0<=dv false (2^52+f) (((1022:Nat):Int)-1075):=by unfold dv sg;have:=bU (show(0:Rat)<=((2^52+f:Nat):Rat) by exact_mod_cast Nat.zero_le _) (bN (bG (((1022:Nat):Int)-1075)));simp only[Bool.false_eq_true,if_false];grind
 rw[fZ hp]at g1 g2;have q1:(2:Rat)^(((1022:Nat):Int)-1023)=(2:Rat)^(-1:Int):=by rfl
 have q2:(2:Rat)^(((1022:Nat):Int)-1022)=1:=by rw[show(((1022:Nat):Int)-1022)=0 by decide];simp
 rw[q1]at g1;rw[q2]at g2;have hh:=fA 0;rw[show(2:Rat)^(0:Int)=1 by simp,show(0-1:Int)=-1 by decide]at hh;have hw:(orU (rT ((((if false then 2^63 else 0)+E*2^52+f:Nat)):Int) 9218868437227405312) 4602678819172646912).toNat=(if false then 2^63 else 0)+1022*2^52+f:=by rw[aT3 b2 b3];exact bIf (s:=false) (E:=1022) (by decide) b3
 refine⟨(if false then 2^63 else 0)+1022*2^52+f,e+(E-1022),dv false (2^52+f) (((1022:Nat):Int)-1075),hi,?_,by grind,by grind,?_,?_,by omega,by omega,λR k=>?_⟩
 ·have e2:x*(2:Rat)^(-(e+((E:Int)-1022)))=x*(2:Rat)^(-e)*(2:Rat)^(1022-(E:Int)):=by rw[Rat.mul_assoc,<-bO];congr 2;omega
  rw[e2,hv];unfold dv;rw[Rat.mul_assoc,Rat.mul_assoc,<-bO];congr 3;omega
 ·have:=cG d1 (bN (bG e));rw[<-bO,Rat.mul_assoc,Rat.mul_comm ((2:Rat)^(-e)),jG,Rat.mul_one,show(E:Int)-1023+e=e+(E-1022)-1 by omega]at this;exact this
 ·have:=Rat.mul_lt_mul_of_pos_right d2 (bG e);rw[<-bO,Rat.mul_assoc,Rat.mul_comm ((2:Rat)^(-e)),jG,Rat.mul_one,show(E:Int)-1022+e=e+(E-1022) by omega]at this;exact this
 ·unfold mR aRv;have h0:¬(x=((0:Int):Rat)):=by simpa using hx0
  rw[aJ,qT h hJ];simp only[h0,decide_false];rw[oU h,aJ];simp only;rw[lX h,aJ];simp only;rw[hk];unfold aEd aXu;rw[aXv b2 b3];simp only[aI R];rw[qI (n:=(E:Int)) (by omega) (by omega),qI (n:=(E:Int)-1023) (by omega) (by omega),qI (n:=(E:Int)-1023+1) (by omega) (by omega)];rw[show(E:Int)-1023+1=(E:Int)-1022 by omega,qI (by omega) (by omega),hw]
noncomputable def moA:H9:=sI (bB 56) 0
def moE(x y yf r:Nat)(ye:Int):Env:=[(7,.float .f64 r),(5,.float .f64 yf),(6,.int .i64 ye),(0,.float .f64 x),(1,.float .f64 y)]
noncomputable def moC(fi:Fi)(ab:KFF)(n2:yY)(n1:KF1)(fr:aH6)(ld:aKy):Cx:=uC fi [(21,sFF ab),(73,bFx n2),(75,bFw n1),(94,aGr fr),(95,aP4 ld)] [] []
noncomputable def moZ{R:Type}(C:Cx)(L:qR)(K:Ex->Env->dF->Option R):Ex->Env->AH->Option R:=fS 0 (jP (λen H=>bE C 60 (eS [7,5,6,0,1] [] L) 0 62 (lJ 7 (bB 56)) en H (aU [4] [] K)) (aU [4] [] K))
section
variable(fi:Fi)(ab:KFF)(n2:yY)(n1:KF1)(fr:aH6)(ld:aKy)(L:qR)(R:Type)(x y yf r:Nat)(ye:Int)(K:Ex->Env->dF->Option R)
theorem aSq:bE (moC fi ab n2 n1 fr ld) 60 noL 0 62 moA (moE x y yf r ye) ⟨0,[]⟩ (aU [7,5,6,0,1] [] K) =
  bif geF r y then
   fr R r λq e=>bif ltF q yf then fi R (K9.i64.wrap (e-1)) λe=>fi R (K9.i64.wrap (e-ye)) λj=>ld R y j λh=>aM (fbF .sub r h) λr=>K .normal (moE x y yf r ye) []
   else fi R (K9.i64.wrap (e-ye)) λj=>ld R y j λh=>aM (fbF .sub r h) λr=>K .normal (moE x y yf r ye) []
  else K (.exit 0) (moE x y yf r ye) []:=by kernel_rfl
theorem bMy:bE (moC fi ab n2 n1 fr ld) 60 (eS [7,5,6,0,1] [] L) 0 62 (bB 56) (gX 0 [.float .f64 x,.float .f64 4620693217682128896]) ⟨0,[]⟩ (aU [4] [] K) =
  n2 R x 0 0 (n1 R x (n1 R 4620693217682128896 (ab R 4620693217682128896 λy=>fr R y λyf ye=>bif ltF x 0 then bH (Op.negFloat .f64 x) λr=>L R 0 62 moA (moE x y yf r ye) ⟨0,[]⟩ (moZ (moC fi ab n2 n1 fr ld) L K)
   else L R 0 62 moA (moE x y yf x ye) ⟨0,[]⟩ (moZ (moC fi ab n2 n1 fr ld) L K)))):=by kernel_rfl
theorem bMx:bE (moC fi ab n2 n1 fr ld) 60 (eS [7,5,6,0,1] [] L) 0 62 (bB 56) (gX 0 [.float .f64 x,.float .f64 4616189618054758400]) ⟨0,[]⟩ (aU [4] [] K) =
  n2 R x 0 0 (n1 R x (n1 R 4616189618054758400 (ab R 4616189618054758400 λy=>fr R y λyf ye=>bif ltF x 0 then bH (Op.negFloat .f64 x) λr=>L R 0 62 moA (moE x y yf r ye) ⟨0,[]⟩ (moZ (moC fi ab n2 n1 fr ld) L K)
   else L R 0 62 moA (moE x y yf x ye) ⟨0,[]⟩ (moZ (moC fi ab n2 n1 fr ld) L K)))):=by kernel_rfl
theorem bTw:bE (moC fi ab n2 n1 fr ld) 60 L 0 62 (lJ 7 (bB 56)) (moE x y yf r ye) ⟨0,[]⟩ (aU [4] [] K) =
  bif ltF x 0 then bH (Op.negFloat .f64 r) λr=>K .ret [(4,.float .f64 r)] [] else K .ret [(4,.float .f64 r)] []:=by kernel_rfl
theorem bTz(g:HT)(v:V9)(M:dF)(y:Nat):bE (uC fi [] [(56,bF v g)] []) 60 noL 0 11 (bB 20) (gX 0 [.float .f64 x,.float .f64 y]) ⟨0,[]⟩ (aU [4] [] K)=g R [.float .f64 x,.float .f64 y] ⟨0,[]⟩ (K .ret [(4,v)] []):=by kernel_rfl
end
theorem fr8(R:Type)(k:Nat->Int->Option R):mR R 4620693217682128896 k=k 4602678819172646912 4:=by kernel_rfl
theorem fr4(R:Type)(k:Nat->Int->Option R):mR R 4616189618054758400 k=k 4602678819172646912 3:=by kernel_rfl
theorem ld8:∀j:Nat,j<7->∀(R:Type)(k:KNO R),pB R 4620693217682128896 j k=k (fI ((2^(j+3):Nat):Int))
 |0,_,R,k=>by kernel_rfl
 |1,_,R,k=>by kernel_rfl
 |2,_,R,k=>by kernel_rfl
 |3,_,R,k=>by kernel_rfl
 |4,_,R,k=>by kernel_rfl
 |5,_,R,k=>by kernel_rfl
 |6,_,R,k=>by kernel_rfl
 |n+7,h,_,_=>absurd h (by omega)
theorem ld4:∀j:Nat,j<8->∀(R:Type)(k:KNO R),pB R 4616189618054758400 j k=k (fI ((2^(j+2):Nat):Int))
 |0,_,R,k=>by kernel_rfl
 |1,_,R,k=>by kernel_rfl
 |2,_,R,k=>by kernel_rfl
 |3,_,R,k=>by kernel_rfl
 |4,_,R,k=>by kernel_rfl
 |5,_,R,k=>by kernel_rfl
 |6,_,R,k=>by kernel_rfl
 |7,_,R,k=>by kernel_rfl
 |n+8,h,_,_=>absurd h (by omega)
end Go.Vm
