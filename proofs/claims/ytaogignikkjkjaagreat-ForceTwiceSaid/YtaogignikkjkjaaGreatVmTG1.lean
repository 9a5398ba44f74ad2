/- A part; no conditions. -/
import Derived.Test.YtaogignikkjkjaaGreatVmTFA
set_option maxRecDepth 1000000
set_option maxHeartbeats 1000000
set_option linter.all false
open Go.Proofs.Tryz renaming prog->P9
namespace Go.Vm.Nl
open Go.Proofs Go.Vm
theorem bEw{s:Value}(hs:s=bL\/∃c,s=.slice (some ⟨0,0,none⟩) 0 c)(c1 c2 r:Nat)(H:AH):aD P9 22 [s,ciV c1 c2 r] H (ofV bL true):=by
 rcases hs with rfl|⟨c,rfl⟩
 ·have h:=bPg aG (Ex×Env×dF) aNp jC kO mdK aCc rSt (rAp P9) c1 c2 r λex e O=>some (ex,e,O)
  exact up rfl (fK (C:=tmK oa0) (args:=[bL,ciV c1 c2 r]) (H:=⟨1,[]⟩) (wS _) aO Tryz.func22 aKp (λa _=>lN (wS _) aO 60 a) (kK rfl) h (.inr rfl) (vs:=[.agg ⟨[bL]⟩,.bool true]) rfl rfl) H
 ·have h:=bPf aG (Ex×Env×dF) aNp jC kO mdK aCc rSt (rAp P9) c c1 c2 r λex e O=>some (ex,e,O)
  exact tS (q:=only 0) (argsc:=[.slice (some ⟨0,0,none⟩) 0 c,ciV c1 c2 r]) aCt rfl (fK (C:=tmK oa0) (args:=[.slice (some ⟨0,0,none⟩) 0 c,ciV c1 c2 r]) (H:=⟨1,[]⟩) (wS _) aO Tryz.func22 aKp (λa _=>lN (wS _) aO 60 a) (kK rfl) h (.inr rfl) (vs:=[.agg ⟨[bL]⟩,.bool true]) rfl rfl)
theorem bY0(R:Type)(K:Nat->Nat->Nat->Int->Option R):(xJ dV 0 0 [(0,0)] λr1 r2=>fbZ jK eQ aP dG 0 0 r1 r2 K)=K 9223372036854775808 0 0 0:=by kernel_rfl
section
variable{c1 c2 r t:Nat}(hr:bQw c1 c2 r)(ht:fbF .mul r 4517110426252607488=some t)
include hr ht
theorem aBj(H:AH):aD P9 31 [nf,ciV c1 c2 r] H (inV bL):=
 aI2 (C:=cx P9 [(92,aP3 jQ)]) (aGi (.cons bIb aYu .nil)) aO rfl (by rw[bT6,hr.within,aJ,T7,hr.lo,T7,hr.hi,T7,pW ht])
theorem by_call(H:AH):aD P9 24 [nf,ciV c1 c2 r] H (rO 9223372036854775808 0 0 0):=by
 have hs:∀H:AH,aD P9 44 [bL] H (.complex .f64 0 0):=λH=>aYd (hs:=[]) (u1:=0) (u2:=0) (by decide) ⟨λ_=>(0,0),⟨rfl,λz h=>by simp at h,λk z _ h=>by simp at h⟩,rfl⟩ (λu h=>by simp[obC]at h)
 have h:=bRg aG (Ex×Env×dF) (rQ 1) rSt (rAp P9) jJ dV gJ reH sU jK eQ aP dG gF (fJ P9 11 (reV 0 0 0)) (fJ P9 31 (inV bL)) (fJ P9 44 (.complex .f64 0 0)) c1 c2 r λex e O=>some (ex,e,O)
 rw[cO (bOl hr ht _),cO (aBj hr ht _),cO (hs _)]at h;rw[bY0]at h;have hok:=aX1 0 0 0 0;exact up rfl (fK (C:=bQg 0 0 0 0) (args:=[nf,ciV c1 c2 r]) (H:=⟨1,[]⟩) hok aO Tryz.func24 aIj (λa _=>lN hok aO 60 a) (kK rfl) h (.inr rfl) (vs:=[.agg ⟨[.complex .f64 9223372036854775808 0,.float .f64 0]⟩,.int .i64 0]) rfl rfl) H
end
structure Fot(c1 c2 r n:Nat)(d z q:Nat->Nat×Nat):Prop where
 gone:∀k,k<n->∀(R:Type)(K:Nat->Nat->Nat->Nat->Option R),aWc aG vX jJ r c1 c2 n k K=K (d k).1 (d k).2 (z k).1 (z k).2
 within:∀k,k<n->∀(R:Type)(K:KBO R),jQ R (z k).1 (z k).2 4787326403894837248 K=K true
 term:∀k,k<n->∀(R:Type)(K:KNN R),(jV R (d k).1 (d k).2 λt1 t2=>xJ dV 0 0 [(0,0),(t1,t2),((d k).1,(d k).2)] K)=K (q k).1 (q k).2
section
variable{c1 c2 r n x y:Nat}{d z q:Nat->Nat×Nat}
def foH(c1 c2 r n:Nat)(q:Nat->Nat×Nat)(k:Nat):AH:=⟨5,foD c1 c2 r++[(4,.cells (fil q n k) 0)]⟩
theorem bHy(k:Nat):fD (gK 5 []) (foD c1 c2 r++[(4,.cells (fil q n k) 0)])=some (foD c1 c2 r++[(4,.cells (fil q n k) 0)]):=by show fD _ ((3,.cells [.complex .f64 0 0,.float .f64 0] 0)::(2,.cells [.complex .f64 c1 c2,.float .f64 r] 0)::(1,.cells [bL] 0)::[(4,.cells (fil q n k) 0)])=_;simp only[fD,pN,qJ,nH];rw[bQ (qY q n k)];rfl
theorem aOo(h:Fot c1 c2 r n d z q)(hn:n<100000){k:Nat}(hk:k<n):
  cI P9 1 87 (foH c1 c2 r n q 0) (foE n x y k) (foH c1 c2 r n q k) .normal (foE n x y (k+1:Nat)) (foH c1 c2 r n q (k+1)) (λQ a w=>foA.wp P9 Q a w):=by
 exact bK (C:=foR (0,0)) (H0:=foH c1 c2 r n q 0) (e:=foE n x y k) (H:=foH c1 c2 r n q k) (n:=60) (ts:=[31,30,10,4,3,2,6,8]) (bo:=[3,2,1,4]) (bs:=[]) (A:=foD c1 c2 r++[(4,.cells (fil q n (k+1)) 0)]) (B:=[]) (D:=foD c1 c2 r++[(4,.cells (fil q n 0) 0)]) (e1:=foE n x y (k+1:Nat)) (O1:=foD c1 c2 r++[(4,.cells (fil q n (k+1)) 0)]) (aRr _) aO aC9
  (by unfold foR;refine(Nl.fo_round aG _ _ _ _ _ _ _ _ _ _ _ _ (fil q n k) n k c1 c2 r x y _).trans ?_;unfold Nl.foRd;rw[D7 (show(k:Int)<n by omega),T7,h.gone k hk];refine(aDi (speed_nil (h.within k hk) _)).trans ?_;rw[h.term k hk,jN,T7];unfold rSt;rw[iJ (by rw[yK q (by omega)];simp;omega),T7,zP q hk];show aG (Ex×Env×dF) _ _=_;rw[aI,fN (by omega)]) rfl (by exact bHy (k+1)) rfl rfl rfl rfl rfl
theorem aOn:cI P9 1 87 (foH c1 c2 r n q 0) (foE n x y n) (foH c1 c2 r n q n) (.exit 0) (foE n x y n) (foH c1 c2 r n q n) (λQ a w=>foA.wp P9 Q a w):=by
 exact bK (C:=foR (0,0)) (H0:=foH c1 c2 r n q 0) (e:=foE n x y n) (H:=foH c1 c2 r n q n) (n:=60) (ts:=[31,30,10,4,3,2,6,8]) (bo:=[3,2,1,4]) (bs:=[]) (A:=foD c1 c2 r++[(4,.cells (fil q n n) 0)]) (B:=[]) (D:=foD c1 c2 r++[(4,.cells (fil q n 0) 0)]) (e1:=foE n x y n) (O1:=foD c1 c2 r++[(4,.cells (fil q n n) 0)]) (aRr _) aO aC9
  (by unfold foR;refine(Nl.fo_round aG _ _ _ _ _ _ _ _ _ _ _ _ (fil q n n) n n c1 c2 r x y _).trans ?_;unfold Nl.foRd;rw[E7 (by omega),F7]) rfl (by exact bHy n) rfl rfl rfl rfl rfl
theorem aEc(h:Fot c1 c2 r n d z q)(hn:n<100000):dH P9 1 87 (foH c1 c2 r n q 0) foA (foE n x y (0:Nat)) (foH c1 c2 r n q 0) (.exit 0) (foE n x y n) (foH c1 c2 r n q n):=by refine fQ (E:=λk:Nat=>foE n x y k) (H:=λk=>foH c1 c2 r n q k) n 0 (λk _ hk=>aOo h hn (by omega)) (gY (by intro h;cases h) ?_);simp only[Nat.zero_add];exact aOn
theorem of_force{u1 u2 a b w:Nat}{e:Int}{g:Nat->Nat×Nat}(h:Fot c1 c2 r n d z q)(hn:n<=16384)(hq:∀H,aD P9 13 [nf,ciV c1 c2 r,.int .i64 n] H (reV x y 0))(hs:aGf (lst q n) g)(hx:g n=(u1,u2))(hl:∀(R:Type)(K:Nat->Nat->Nat->Int->Option R),foZ jV eQ jK aP dG n x y u1 u2 K=K a b w e)(H:AH):aD P9 23 [nf,ciV c1 c2 r,.int .i64 n] H (rO a b w e):=by
 have hB:=@gG _ _ _ _ _ _ _ _ _ (aEc (x:=x) (y:=y) h (by omega));have hsum:aD P9 44 [.slice (some ⟨4,0,none⟩) n n] (foH c1 c2 r n q n) (.complex .f64 u1 u2):=by have:=pS (cs:=bA (lst q n)) (sz:=0) (o:=0) (c:=n) (zs:=lst q n) (f:=g) (mG _) (by rw[qO];omega) hs;rw[qO,hx]at this;refine aD.one (b:=4) this (oO _) ?_ rfl;unfold foH;rw[aEa];simp
 have ht:=Nl.fo_top aG (Ex×Env×dF) rSt (rAp P9) vX jJ dV jV eQ jK aP dG n c1 c2 r x y u1 u2 (λex e O=>some (ex,e,O)) (told P9 (.exit 0) (foE n x y n) (foH c1 c2 r n q n)) (fJ P9 13 (reV x y 0)) (fJ P9 44 (.complex .f64 u1 u2));rw[cO (hq _)]at ht;rw[D7 (show(0:Int)<=(n:Int) by omega),D7 (show(n:Int)<=(n:Int) by omega),D7 (show(n:Int)<=4294967296 by omega),D7 (show(16:Int)*n<=281474976710656 by omega)]at ht;rw[show(true&&true&&true&&true)=true from rfl,T7,zQ q n]at ht;have ht:=ht.trans (gT @hB _ _);rw[cX]at ht;have ht:=ht.trans (Nl.fo_end aG _ _ _ _ _ _ _ _ _ _ _ (fil q n n) n n c1 c2 r x y u1 u2 _ _ _ _);have ht:=ht.trans (cO hsum);rw[hl]at ht;have hok:=bHw x y u1 u2;refine up rfl (fK (C:=foS x y u1 u2) (n:=60) (f:=23) (fn:=Tryz.f23) (c:=bB 23) (L:=eS [31,30,10,4,3,2,6,8] [3,2,1,4] (told P9 (.exit 0) (foE n x y n) (foH c1 c2 r n q n))) (ts:=[6,7]) (bo:=[3]) (ex:=.ret) (e':=[(6,.pointer (some ⟨3,0,none⟩)),(7,.int .i64 e)]) (O:=[(3,.cells [.complex .f64 a b,.float .f64 w] 0)]) (H:=⟨1,[]⟩) (args:=[nf,ciV c1 c2 r,.int .i64 n]) (vs:=[.agg ⟨[.complex .f64 a b,.float .f64 w]⟩,.int .i64 e]) ?_ ?_ ?_ ?_ ?_ ?_ ?_ ?_ ?_ ?_) H;· exact hok
 ·exact aO
 ·exact Tryz.func23
 ·exact aYk
 ·exact λa _=>dJ (gN _ _ _ _ a)
 ·exact kK rfl
 ·exact ht
 ·exact .inr rfl
 ·rfl
 ·rfl
end
section
variable{c1 c2 r n a1 a2 am b1 b2 bm:Nat}{d z:Nat->Nat×Nat}
theorem aEf(hg:∀k,k<n->∀(R:Type)(K:Nat->Nat->Nat->Nat->Option R),aWc aG vX jJ r c1 c2 n k K=K (d k).1 (d k).2 (z k).1 (z k).2)(hn:n<100000):
  dH P9 1 168 ⟨5,ftO c1 c2 r a1 a2 am b1 b2 bm⟩ ftA (ftE n 0 (0:Nat)) ⟨5,ftO c1 c2 r a1 a2 am b1 b2 bm⟩ (.exit 0) (ftE n 0 n) ⟨5,ftO c1 c2 r a1 a2 am b1 b2 bm⟩:=by
 have a0:fbF .add 0 0=some 0:=by kernel_rfl
 have m0:fbF .mul 0 0=some 0:=by kernel_rfl
 have hok:(ftR aEx).Ok:=aC1 (aEe bQn) .nil .nil;refine fQ (P:=P9) (lo:=1) (sz:=168) (a:=ftA) (H0:=⟨5,ftO c1 c2 r a1 a2 am b1 b2 bm⟩) (E:=λk:Nat=>ftE n 0 k) (H:=λ_=>⟨5,ftO c1 c2 r a1 a2 am b1 b2 bm⟩) (ex:=.exit 0) (e':=ftE n 0 n) (H':=⟨5,ftO c1 c2 r a1 a2 am b1 b2 bm⟩) n 0 (λk _ hk=>?_) (gY (by intro h;cases h) ?_)
 ·exact kG (C:=ftR aEx) (L:=sV (ftR aEx) 60) hok aO (λa _=>lN hok aO 60 a) (H0:=⟨5,ftO c1 c2 r a1 a2 am b1 b2 bm⟩) (e:=ftE n 0 k) (H:=⟨5,ftO c1 c2 r a1 a2 am b1 b2 bm⟩) (n:=60) (ts:=ftT++[10]) (bo:=[4,3,2,1]) (bs:=[]) (A:=ftO c1 c2 r a1 a2 am b1 b2 bm) (B:=[]) (D:=ftO c1 c2 r a1 a2 am b1 b2 bm) (e1:=ftE n 0 (k+1:Nat)) (O1:=ftO c1 c2 r a1 a2 am b1 b2 bm)
   (by refine(Nl.ft_round ..).trans ?_;rw[D7 (show(k:Int)<n by omega),T7];refine(hg k (by omega) (Ex×Env×dF) _).trans ?_;rw[aK m0,aK a0,aI,fN (by omega)]) rfl rfl rfl rfl rfl rfl rfl
 ·simp only[Nat.zero_add];exact kG (C:=ftR aEx) (L:=sV (ftR aEx) 60) hok aO (λa _=>lN hok aO 60 a) (H0:=⟨5,ftO c1 c2 r a1 a2 am b1 b2 bm⟩) (e:=ftE n 0 n) (H:=⟨5,ftO c1 c2 r a1 a2 am b1 b2 bm⟩) (n:=60) (ts:=ftT++[10]) (bo:=[4,3,2,1]) (bs:=[]) (A:=ftO c1 c2 r a1 a2 am b1 b2 bm) (B:=[]) (D:=ftO c1 c2 r a1 a2 am b1 b2 bm) (e1:=ftE n 0 n) (O1:=ftO c1 c2 r a1 a2 am b1 b2 bm)
   (by refine(Nl.ft_round ..).trans ?_;rw[E7 (by omega),F7]) rfl rfl rfl rfl rfl rfl rfl
noncomputable def bXh(a1 a2 am b1 b2 bm:Nat):Cx:=ftC aG jC kO aEx vX jJ spdK cQ (nrT kO) [(22,bF (ofV bL true) (fJ P9 22 (ofV bL true))),(23,bF (rO a1 a2 am 0) (fJ P9 23 (rO a1 a2 am 0))),(24,bF (rO b1 b2 bm 0) (fJ P9 24 (rO b1 b2 bm 0)))] []
theorem bLt(a1 a2 am b1 b2 bm:Nat):(bXh a1 a2 am b1 b2 bm).Ok:=aC1 (aEe bQn) (.cons (gL rfl) bXm (.cons (gL rfl) cDd (.cons (gL rfl) cDh .nil))) .nil
theorem ft_call{s:Value}(hs:s=bL\/∃c,s=.slice (some ⟨0,0,none⟩) 0 c){x y rr m:Int}(hn:n<100000)(hN:∀(R:Type)(K:Nat->Nat->Nat->Int->Option R),ftN aG jC kO aEx x y rr m K=K c1 c2 r (n:Int))(hg:∀k,k<n->∀(R:Type)(K:Nat->Nat->Nat->Nat->Option R),aWc aG vX jJ r c1 c2 n k K=K (d k).1 (d k).2 (z k).1 (z k).2)(hO:∀H,aD P9 23 [nf,ciV c1 c2 r,.int .i64 (n:Int)] H (rO a1 a2 am 0))(hB:∀H,aD P9 24 [nf,ciV c1 c2 r] H (rO b1 b2 bm 0))(hZ:∀(R:Type)(X:Option R),ftZ (nrT kO) n 0 r a1 a2 am b1 b2 bm X=X):
  aD P9 4 (vR s x y rr m) ⟨1,[]⟩ (.bool true):=by
 have hL:=@gG _ _ _ _ _ _ _ _ _ (aEf (a1:=a1) (a2:=a2) (am:=am) (b1:=b1) (b2:=b2) (bm:=bm) hg hn);have hok:=bLt a1 a2 am b1 b2 bm;have key:bE (bXh a1 a2 am b1 b2 bm) 60 (eS ftT [4,3,2,1] (told P9 (.exit 0) (ftE n 0 n) ⟨5,ftO c1 c2 r a1 a2 am b1 b2 bm⟩)) 1 168 (bB 4) (gX 0 (vR s x y rr m)) ⟨1,[]⟩ (aU [10] [] λex e O=>some (ex,e,O))=some (.ret,[(10,.bool true)],[]):=by
  have hm:=bEw hs c1 c2 r ⟨2,[foO 1 c1 c2 r]⟩;have fin:∀{X:Option (Ex×Env×dF)},X=fJ P9 22 (ofV bL true) (Ex×Env×dF) [s,ciV c1 c2 r] ⟨2,[foO 1 c1 c2 r]⟩ (fJ P9 23 (rO a1 a2 am 0) (Ex×Env×dF) [nf,ciV c1 c2 r,.int .i64 (n:Int)] ⟨3,[(2,.cells [bL] 0),foO 1 c1 c2 r]⟩ (fJ P9 24 (rO b1 b2 bm 0) (Ex×Env×dF) [nf,ciV c1 c2 r] ⟨4,[foO 3 a1 a2 am,(2,.cells [bL] 0),foO 1 c1 c2 r]⟩ (
    told P9 (.exit 0) (ftE n 0 n) ⟨5,ftO c1 c2 r a1 a2 am b1 b2 bm⟩ (Ex×Env×dF) 1 168 ftA (ftE n 0 0) ⟨5,ftO c1 c2 r a1 a2 am b1 b2 bm⟩ (fS 0 (jP (λen H=>bE (bXh a1 a2 am b1 b2 bm) 60 (eS ftT [4,3,2,1] (told P9 (.exit 0) (ftE n 0 n) ⟨5,ftO c1 c2 r a1 a2 am b1 b2 bm⟩)) 1 168 (lJ 12 (bB 4)) en H (aU [10] [] λex e O=>some (ex,e,O))) (aU [10] [] λex e O=>some (ex,e,O)))))))->X=some (.ret,[(10,.bool true)],[]):=λ{X} hX=>by
   rw[hX];refine(cO hm).trans ?_;refine(cO (hO _)).trans ?_;refine(cO (hB _)).trans ?_;refine(gT @hL _ _).trans ?_;rw[cX];refine(Nl.ft_end aG jC kO aEx vX jJ spdK cQ (nrT kO) _ _ _ n 0 c1 c2 r a1 a2 am b1 b2 bm _ _ _).trans ?_;exact hZ _ _
  rcases hs with rfl|⟨c,rfl⟩;· refine fin ((Nl.ft_topS aG jC kO aEx vX jJ spdK cQ (nrT kO) (fJ P9 22 (ofV bL true)) (fJ P9 23 (rO a1 a2 am 0)) (fJ P9 24 (rO b1 b2 bm 0)) a1 a2 am b1 b2 bm x y rr m _ _ _).trans ?_);rw[hN];rfl
  ·refine fin ((Nl.ft_topA aG jC kO aEx vX jJ spdK cQ (nrT kO) (fJ P9 22 (ofV bL true)) (fJ P9 23 (rO a1 a2 am 0)) (fJ P9 24 (rO b1 b2 bm 0)) c a1 a2 am b1 b2 bm x y rr m _ _ _).trans ?_);rw[hN];rfl
 refine fK (C:=bXh a1 a2 am b1 b2 bm) (n:=60) (f:=4) (fn:=Tryz.f4) (c:=bB 4) (L:=eS ftT [4,3,2,1] (told P9 (.exit 0) (ftE n 0 n) ⟨5,ftO c1 c2 r a1 a2 am b1 b2 bm⟩)) (ts:=[10]) (bo:=[]) (ex:=.ret) (e':=[(10,.bool true)]) (O:=[]) (H:=⟨1,[]⟩) (args:=vR s x y rr m) (vs:=[.bool true]) ?_ ?_ ?_ ?_ ?_ ?_ ?_ ?_ ?_ ?_;· exact hok
 ·exact aO
 ·exact Tryz.func4
 ·exact aI4
 ·exact λa _=>dJ (gN _ _ _ _ a)
 ·exact kK rfl
 ·exact key
 ·exact .inr rfl
 ·rfl
 ·rfl
end
end Go.Vm.Nl
