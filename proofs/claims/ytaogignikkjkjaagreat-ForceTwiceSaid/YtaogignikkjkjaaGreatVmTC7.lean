/- A part; no conditions. -/
import Derived.Test.YtaogignikkjkjaaGreatVmTC2
import Derived.Test.YtaogignikkjkjaaGreatRows
import Derived.JoinedCond
set_option maxRecDepth 1000000
set_option maxHeartbeats 1000000
set_option linter.all false
open Go.Proofs.Tryz renaming prog->P9
open Nat renaming beq->N9
open Go renaming Value->V9,Program->Q9,World->W9,TypeId->I9,IntKind->K9,floatOfInt->U9
namespace Go.Vm
open Go.Proofs
def bXp(js:List Nat):Option (List V9):=match js with
 |[]=>none
 |j::l=>some (wF (j::l))
def bQl(js:List Nat)(k:Nat):Bool:=decide (k∈js)
theorem bMc(js:List Nat):aNu (bXp js) (lv 4 js.length) where
 flat:=λis h=>by
  cases js with
  |nil=>cases h
  |cons j l=>cases h;exact oT _
 ren:=λp h4=>yB h4 _
theorem bS0{js:List Nat}(h6:js.length<=6)(k:Nat):bG9 (bXp js) (lv 4 js.length) k (bQl js k):=λH hH=>by
 cases js with
 |nil=>
  have:bQl [] k=false:=by unfold bQl;simp
  rw[this];exact aIn H
 |cons j l=>have:=aIo (js:=j::l) (c:=(j::l).length) (sz:=1) (v:=k) (by simp) h6;exact aD.one (b:=4) this (oT _) (hH _ (by simp[bXp,xC])) rfl
theorem aLf{xs:List El}{inn:Nat->Bool}{sh:El->Nat×Nat}(h:∀k,inn k=false):∀k,(oI xs inn sh k).is=[]
 |0=>rfl
 |k+1=>by
  have ih:=aLf (xs:=xs) (sh:=sh) h k;unfold oI;split;· unfold vW;rw[h k];exact ih
  ·exact ih
section
variable{xs:List El}{c x y sz c1 c2 r u1 u2 a b m:Nat}{e:Int}{sh:El->Nat×Nat}{val:Nat->Nat->Int->Nat×Nat}{ρ:Nat->Nat×Nat}
abbrev inJ(S:jO c1 c2 r)(xs:List El):Nat->Bool:=bQl (lP S (-1) xs xs.length)
structure ByT(S:jO c1 c2 r)(xs:List El)(c sz x y:Nat)(sh:El->Nat×Nat)(val:Nat->Nat->Int->Nat×Nat)(ρ:Nat->Nat×Nat)(u1 u2:Nat):Prop where
 len:xs.length<=6
 seen:∀X∈xs,aC2 c1 c2 S.lw X
 kind:∀X∈xs,X.kind=1\/X.kind=4\/X.kind=2\/X.kind=3
 clean:aD P9 38 [cW 0 xs.length c,ciV c1 c2 r,.bool false] ⟨1,[(0,.cells (cellsOf xs) sz)]⟩ (.int .i64 0)
 sq:aD P9 11 (oM xs.length c c1 c2 r) ⟨1,[(0,.cells (cellsOf xs) sz)]⟩ (reV x y 0)
 share:∀X∈xs,X.kind=2->∀(R:Type)(K:KNN R),reH R X.s1 X.s2 K=K (sh X).1 (sh X).2
 two:∀k X,(oI xs (inJ S xs) sh xs.length).is[k]?=some X->bP9 (oI xs (inJ S xs) sh xs.length).os val c1 c2 X (ρ k) (ρ (k+1))
 sum:∃g,aGf (oI xs (inJ S xs) sh xs.length).hs g/\g (oI xs (inJ S xs) sh xs.length).hs.length=(u1,u2)
 mul:∀(R:Type)(K:KNN R),xJ dV u1 u2 [(u1,u2)] K=K (ρ 0).1 (ρ 0).2
theorem by_call(S:jO c1 c2 r)(T:ByT S xs c sz x y sh val ρ u1 u2)(hl:∀(R:Type)(K:Nat->Nat->Nat->Int->Option R),fbZ jK eQ aP dG x y (ρ (oI xs (inJ S xs) sh xs.length).is.length).1 (ρ (oI xs (inJ S xs) sh xs.length).is.length).2 K=K a b m e):
  aD P9 24 (oM xs.length c c1 c2 r) ⟨1,[(0,.cells (cellsOf xs) sz)]⟩ (rO a b m e):=by
 have hlen:=T.len;have h6:(lP S (-1) xs xs.length).length<=6:=by have:=aM6 (xs:=xs) (w:=-1) S xs.length;omega
 have hF:Fby xs c1 c2 r x y (bXp (lP S (-1) xs xs.length)) (lv 4 (lP S (-1) xs xs.length).length) (inJ S xs) sh val ρ u1 u2 c sz:=
  {one:=
    {ok:=bMc _
     kind:=λk X hk=>T.kind X (List.mem_of_getElem? hk)
     cont:=λk X hk _=>bS0 h6 k
     has:=λk X hk _ hi=>by
      have hi:decide (k∈lP S (-1) xs xs.length)=true:=hi;have hi:=of_decide_eq_true hi;cases hj:lP S (-1) xs xs.length with
      |nil=>rw[hj]at hi;simp at hi
      |cons j l=>exact⟨_,rfl⟩
     share:=λk X hk h2=>T.share X (List.mem_of_getElem? hk) h2 }
   sq:=T.sq,two:=T.two,sum:=T.sum,mul:=T.mul }
 have is0:=aBj (c:=c) (sz:=sz) S (by omega) T.seen T.clean;have isN:=λ(j0:Nat)(js:List Nat)(h:lP S (-1) xs xs.length=j0::js)=>aOu (c:=c) (sz:=sz) S (by omega) T.seen T.clean h (H:=⟨4,fbX xs.length c c1 c2 r (cellsOf xs) sz⟩) aX2
 have h9:=aIh xs (inJ S xs) sh xs.length;by_cases hne:(oI xs (inJ S xs) sh xs.length).is=[]
 ·have hh:(oI xs (inJ S xs) sh xs.length).hs=[]:=Classical.byContradiction λh=>h9 h hne
  have hu:(u1,u2)=(0,0):=by obtain⟨g,g1,g2⟩:=T.sum;rw[hh]at g1 g2;rw[<-g2];exact g1.zero
  rw[hne]at hl;cases hj:lP S (-1) xs xs.length with
  |nil=>rw[hj]at hF;exact bDa (by omega) hF hne (aD.one (b:=0) (is0 hj) (cL _).2.1 aX2 rfl) hl hu
  |cons j0 js=>rw[hj]at hF;exact bC9 (by omega) hF hne (isN j0 js hj) hl hu
 ·cases hj:lP S (-1) xs xs.length with
  |nil=>exfalso;refine hne (aLf (λk=>?_) _);show bQl (lP S (-1) xs xs.length) k=false;rw[hj];unfold bQl;simp
  |cons j0 js=>rw[hj]at hF;exact bKh (by omega) hF hne (isN j0 js hj) hl
end
noncomputable def ftC(fi:Fi)(wh:KIF)(ab:KFF)(md:vS)(pl:aH5)(ad:gU)(sp:bC2)(ln:KCF)(nr:yY)(gl:List (Nat×vP))(ml:List (Nat×aDo)):Cx:=
 uC fi [(18,aTs),(19,sIF wh),(21,sFF ab),(20,aGc md),(25,bVe),(27,bI8 pl),(26,jH ad),(28,bX7 sp),(29,sCF ln),(30,aTr nr)] gl ml
noncomputable def ftA:Code:=sI (bB 4) 0
def ftE(n u:Nat)(k:Int):Env:=[(22,.int .i64 k),(4,.int .i64 n),(12,.pointer (some ⟨1,0,none⟩)),(13,.pointer (some ⟨3,0,none⟩)),(19,.float .f64 4614256656552045848),(21,.float .f64 u),(15,.pointer (some ⟨4,0,none⟩)),(17,.pointer (some ⟨5,0,none⟩)),(11,.bool true)]
def ftT:List Nat:=[22,4,12,13,19,21,15,17,11]
def foO(b a1 a2 am:Nat):Nat×qQ:=(b,.cells [.complex .f64 a1 a2,.float .f64 am] 0)
def ftD(j c1 c2 r a1 a2 am b1 b2 bm:Nat):dF:=[foO 5 b1 b2 bm,foO 4 a1 a2 am,(3,.cells [.slice (some ⟨2,0,none⟩) j j] 0),foO 1 c1 c2 r]
def ftS{R:Type}(sp:bC2)(ln:KCF)(f:Nat->El)(z1 z2:Nat)(er:Option R)(k:KNO R):Nat->Nat->Nat->Option R
 |0,_,s=>k s
 |m+1,i,s=>sp R (f i).kind (f i).a1 (f i).a2 (f i).s1 (f i).s2 (f i).p z1 z2 λx y e=>bif e != 0 then er else ln R x y λl=>aM (fbF .add s l) λs=>ftS sp ln f z1 z2 er k m (i+1) s
def bJt(m:Nat):Prop:=∀(R:Type)(wh:KIF)(ab:KFF)(md:vS)(pl:aH5)(ad:gU)(sp:bC2)(ln:KCF)(nr:yY)(f:Nat->El)(n u k c1 c2 r a1 a2 am b1 b2 bm:Nat)(K:Ex->Env->dF->Option R),
 bE (ftC aG wh ab md pl ad sp ln nr [] []) 60 (sV (ftC aG wh ab md pl ad sp ln nr [] []) 60) 1 168 ftA (ftE n u k) ⟨6,ftD m c1 c2 r a1 a2 am b1 b2 bm++[(2,.cells (bDt f 0 m) 4)]⟩ (aU (ftT++[10]) [5,4,3,1,2] K) =
  bif decide ((k:Int)<n) then
   aG R (K9.i64.wrap (2*(k:Int))) λj=>bH (U9 .f64 j) λa=>aM (fbF .mul a 4614256656552045848) λa=>bH (U9 .f64 (n:Int)) λb=>aM (fbF .quo a b) λt=>pl R r t λd1 d2=>ad R c1 c2 d1 d2 λz1 z2=>
   ftS sp ln f z1 z2 (K .ret (ftE n u k++[(10,.bool false)]) (ftD m c1 c2 r a1 a2 am b1 b2 bm++[(2,.cells (bDt f 0 m) 4)]))
    (λs=>aM (fbF .mul s s) λq=>aM (fbF .add u q) λu=>aG R (K9.i64.wrap (k+1)) λi=>K .normal (ftE n u i) (ftD m c1 c2 r a1 a2 am b1 b2 bm++[(2,.cells (bDt f 0 m) 4)])) m 0 0
  else K (.exit 0) (ftE n u k) (ftD m c1 c2 r a1 a2 am b1 b2 bm++[(2,.cells (bDt f 0 m) 4)])
theorem cE6:bJt 1:=by intro R wh ab md pl ad sp ln nr f n u k c1 c2 r a1 a2 am b1 b2 bm K;kernel_rfl
theorem cE7:bJt 2:=by intro R wh ab md pl ad sp ln nr f n u k c1 c2 r a1 a2 am b1 b2 bm K;kernel_rfl
theorem cE8:bJt 3:=by intro R wh ab md pl ad sp ln nr f n u k c1 c2 r a1 a2 am b1 b2 bm K;kernel_rfl
theorem cE9:bJt 4:=by intro R wh ab md pl ad sp ln nr f n u k c1 c2 r a1 a2 am b1 b2 bm K;kernel_rfl
theorem cFa:bJt 5:=by intro R wh ab md pl ad sp ln nr f n u k c1 c2 r a1 a2 am b1 b2 bm K;kernel_rfl
theorem cFb:bJt 6:=by intro R wh ab md pl ad sp ln nr f n u k c1 c2 r a1 a2 am b1 b2 bm K;kernel_rfl
def ftN{R:Type}(fi:Fi)(wh:KIF)(ab:KFF)(md:vS)(x y r m:Int)(K:Nat->Nat->Nat->Int->Option R):Option R:=
 wh R x λc1=>wh R y λc2=>wh R r λw=>ab R w λw=>md R w 4652007308841189376 λw=>aM (fbF .add 4607182418800017408 w) λr=>fi R (m.tmod 385) λm=>fi R (K9.i64.wrap (m+385)) λm=>fi R (m.tmod 385) λm=>fi R (K9.i64.wrap (128+m)) λn=>K c1 c2 r n
def bQe(w:Nat->V9)(g:HT):aDo:=λR args H k=>g R args H (k (ofV (w H.next) false) ⟨H.next+1,H.objs⟩)
def ftZ{R:Type}(nr:yY)(n u r a1 a2 am b1 b2 bm:Nat)(K:Option R):Option R:=
 bH (U9 .f64 (n:Int)) λw=>aM (fbF .quo u w) λq=>aM (fbF .mul q 4611686018427387904) λq=>aM (fbF .mul q 4614256656552045848) λq=>aM (fbF .mul q r) λq=>aM (fbF .mul q 4526117625507348480) λq=>
 nr R a1 b1 q (nr R a2 b2 q (aM (fbF .mul q r) λq=>nr R am bm q K))
def ftI(N:Int)(u:Nat)(k:Int):Env:=[(22,.int .i64 k),(4,.int .i64 N),(12,.pointer (some ⟨1,0,none⟩)),(13,.pointer (some ⟨3,0,none⟩)),(19,.float .f64 4614256656552045848),(21,.float .f64 u),(15,.pointer (some ⟨4,0,none⟩)),(17,.pointer (some ⟨5,0,none⟩)),(11,.bool true)]
def flw(b j:Nat):V9:=.agg ⟨[sl3 b j]⟩
noncomputable def ftQ{R:Type}(C:Cx)(L:qR)(K:Ex->Env->dF->Option R):Ex->Env->AH->Option R:=fS 0 (jP (λen H=>bE C 60 (eS ftT [5,4,3,1,2,0] L) 1 168 (lJ 12 (bB 4)) en H (aU [10] [] K)) (aU [10] [] K))
def ftB(b:Nat)(v:V9):Nat×qQ:=(b,.cells [v] 0)
section
variable(fi:Fi)(wh:KIF)(ab:KFF)(md:vS)(pl:aH5)(ad:gU)(sp:bC2)(ln:KCF)(nr:yY)(gm:MT)(gx ga gb:HT)(cs is:List V9)(sz n u k c j c1 c2 r a1 a2 am b1 b2 bm:Nat)(x y rr m:Int)(w:Nat->V9)(L:qR)(R:Type)(K:Ex->Env->dF->Option R)
theorem bSk:bE (ftC fi wh ab md pl ad sp ln nr [(23,bF (rO a1 a2 am 0) ga),(24,bF (rO b1 b2 bm 0) gb)] [(22,jA 4 (λb=>ofV (sl3 b j) true) gm)]) 60 (eS ftT [5,4,3,1,2,0] L) 1 168 (bB 4) (gX 0 [.slice (some ⟨0,0,none⟩) n c,.int .i64 x,.int .i64 y,.int .i64 rr,.int .i64 m]) ⟨1,[(0,.cells cs sz)]⟩ (aU [10] [] K) =
  ftN fi wh ab md x y rr m λc1 c2 r N=>gm R [.slice (some ⟨0,0,none⟩) n c,ciV c1 c2 r] ⟨2,[foO 1 c1 c2 r,(0,.cells cs sz)]⟩ λis=>
   ga R [flw 2 j,ciV c1 c2 r,.int .i64 N] ⟨4,[ftB 3 (sl3 2 j),(2,.cells is 4),foO 1 c1 c2 r,(0,.cells cs sz)]⟩ (
   gb R [flw 2 j,ciV c1 c2 r] ⟨5,[foO 4 a1 a2 am,ftB 3 (sl3 2 j),(2,.cells is 4),foO 1 c1 c2 r,(0,.cells cs sz)]⟩ (
   L R 1 168 ftA (ftI N 0 0) ⟨6,ftD j c1 c2 r a1 a2 am b1 b2 bm++[(2,.cells is 4),(0,.cells cs sz)]⟩ (ftQ (ftC fi wh ab md pl ad sp ln nr [(23,bF (rO a1 a2 am 0) ga),(24,bF (rO b1 b2 bm 0) gb)] [(22,jA 4 (λb=>ofV (sl3 b j) true) gm)]) L K))):=by kernel_rfl
theorem bLv:bE (ftC fi wh ab md pl ad sp ln nr [] [(22,bQe (λ_=>bL) gx)]) 60 noL 1 168 (bB 4) (gX 0 [.slice (some ⟨0,0,none⟩) n c,.int .i64 x,.int .i64 y,.int .i64 rr,.int .i64 m]) ⟨1,[(0,.cells cs sz)]⟩ (aU [10] [] K) =
  ftN fi wh ab md x y rr m λc1 c2 r N=>gx R [.slice (some ⟨0,0,none⟩) n c,ciV c1 c2 r] ⟨2,[foO 1 c1 c2 r,(0,.cells cs sz)]⟩ (K .ret [(10,.bool true)] []):=by kernel_rfl
theorem bLw:bE (ftC fi wh ab md pl ad sp ln nr [] [(22,bQe (λb=>sl3 b j) gx)]) 60 noL 1 168 (bB 4) (gX 0 [.slice (some ⟨0,0,none⟩) n c,.int .i64 x,.int .i64 y,.int .i64 rr,.int .i64 m]) ⟨1,[(0,.cells cs sz)]⟩ (aU [10] [] K) =
  ftN fi wh ab md x y rr m λc1 c2 r N=>gx R [.slice (some ⟨0,0,none⟩) n c,ciV c1 c2 r] ⟨2,[foO 1 c1 c2 r,(0,.cells cs sz)]⟩ (K .ret [(10,.bool true)] []):=by kernel_rfl
theorem ft_end:bE (ftC fi wh ab md pl ad sp ln nr [(23,bF (rO a1 a2 am 0) ga),(24,bF (rO b1 b2 bm 0) gb)] [(22,jA 4 (λb=>ofV (sl3 b j) true) gm)]) 60 L 1 168 (lJ 12 (bB 4)) (ftE n u n) ⟨6,ftD j c1 c2 r a1 a2 am b1 b2 bm++[(2,.cells is 4),(0,.cells cs sz)]⟩ (aU [10] [] K) =
  ftZ nr n u r a1 a2 am b1 b2 bm (K .ret [(10,.bool true)] []):=by kernel_rfl
end
theorem bH1:∀m,1<=m->m<=6->bJt m
 |1,_,_=>cE6
 |2,_,_=>cE7
 |3,_,_=>cE8
 |4,_,_=>cE9
 |5,_,_=>cFa
 |6,_,_=>cFb
 |0,h,_=>absurd h (by omega)
 |n+7,_,h=>absurd h (by omega)
structure Ftu(xs:List El)(c1 c2 r n:Nat)(d z:Nat->Nat×Nat)(s q u:Nat->Nat):Prop where
 gone:∀k,k<n->∀(R:Type)(K:Nat->Nat->Nat->Nat->Option R),aWc aG vX jJ r c1 c2 n k K=K (d k).1 (d k).2 (z k).1 (z k).2
 len:∀k,k<n->∀(R:Type)(er:Option R)(K:KNO R),ftS spdK cQ (rG xs) (z k).1 (z k).2 er K xs.length 0 0=K (s k)
 u0:u 0=0
 sq:∀k,k<n->fbF .mul (s k) (s k)=some (q k)
 u1:∀k,k<n->fbF .add (u k) (q k)=some (u (k+1))
theorem cFy:cH P9 18 aTs:=λR args k r hr=>by
 unfold aTs at hr;split at hr;· exact k67 R [] k r hr
 ·cases hr
noncomputable def ftR(md:vS):Cx:=ftC aG jC kO md vX jJ spdK cQ (nrT kO) [] []
theorem aEe{md:vS}(hmd:cH P9 20 (aGc md)):mE P9 [(18,aTs),(19,sIF jC),(21,sFF kO),(20,aGc md),(25,bVe),(27,bI8 vX),(26,jH jJ),(28,bX7 spdK),(29,sCF cQ),(30,aTr (nrT kO))]:=
 .cons cFy h67 (.cons k68 h68 (.cons k53 h53 (.cons hmd h69 (.cons k65 h65 (.cons bQo bQj (.cons k84 h84 (.cons cEd cDm (.cons k38 h38 (.cons cF3 h66 .nil)))))))))
theorem cF5:cH P9 95 bVd:=λR args k r hr=>by cases hr
theorem cF4:cH P9 94 aP5:=bTf.weak λR args k r hr=>by
 unfold aP5 at hr;split at hr
 ·rename_i a;cases hb:N9 a 4652007308841189376 with
  |true=>rw[hb]at hr;have:=gO hb;subst this;refine⟨k,?_,λv hv=>hv⟩;refine Eq.trans ?_ hr;unfold aGr;kernel_rfl
  |false=>rw[hb]at hr;cases hr
 ·cases hr
theorem aV6:fC (cx P9 [(21,sFF kO),(73,aP7 xX aBk aJd),(75,sFB xY),(94,aGr mR),(95,aP4 pB)]) 60 20 [.float .f64 4652007308841189376,.float .f64 4652007308841189376] some=some (.float .f64 0):=by kernel_rfl
def aEx:vS:=λR x m k=>bif N9 m 4652007308841189376 then cAe R x k else none
theorem bQn:cH P9 20 (aGc aEx):=by
 intro R args k r hr;unfold aGc at hr;split at hr
 ·rename_i x m;unfold aEx at hr;cases hm:N9 m 4652007308841189376 with
  |false=>rw[hm]at hr;cases hr
  |true=>
   rw[hm]at hr;have:=gO hm;subst this;unfold cAe at hr;cases hx:N9 x 4652007308841189376 with
   |true=>rw[hx]at hr;have:=gO hx;subst this;obtain⟨v,q1,q2,q3⟩:=cD (aGi (.cons k53 h53 (.cons aZg bD5 (.cons bQm bL4 (.cons bTf bSs (.cons bXu bSr .nil)))))) aO aV6 rfl;cases q1;exact⟨rfl,_,hr,q2,q3⟩
   |false=>rw[hx]at hr;exact⟨rfl,cD (aGi (.cons k53 h53 (.cons bTd bD5 (.cons bTe bL4 (.cons cF4 bSs (.cons cF5 bSr .nil)))))) aO ((bW4 n2K n1K R x k).trans hr) rfl⟩
 ·cases hr
theorem aI4:Tryz.f4.body=some (bB 4):=by kernel_rfl
section
variable{xs:List El}{cs:List V9}{sz c1 c2 r n a1 a2 am b1 b2 bm:Nat}{d z:Nat->Nat×Nat}{s q u:Nat->Nat}{md:vS}
def ftM(xs:List El)(c1 c2 r a1 a2 am b1 b2 bm:Nat):dF:=ftD xs.length c1 c2 r a1 a2 am b1 b2 bm++[(2,.cells (cellsOf xs) 4)]
theorem bA0:fD (gK 6 []) (ftM xs c1 c2 r a1 a2 am b1 b2 bm++[])=some (ftM xs c1 c2 r a1 a2 am b1 b2 bm):=by rw[List.append_nil];unfold ftM;refine kM rfl ?_;simp only[fD,pN,bQ (cL xs).2.1,Option.bind_some];rfl
theorem bLz(hmd:cH P9 20 (aGc md))(h0:1<=xs.length)(h6:xs.length<=6)(h:Ftu xs c1 c2 r n d z s q u)(hn:n<100000){k:Nat}(hk:k<n):
  cI P9 1 168 ⟨6,ftM xs c1 c2 r a1 a2 am b1 b2 bm++[(0,.cells cs sz)]⟩ (ftE n (u k) k) ⟨6,ftM xs c1 c2 r a1 a2 am b1 b2 bm++[(0,.cells cs sz)]⟩ .normal (ftE n (u (k+1)) (k+1:Nat)) ⟨6,ftM xs c1 c2 r a1 a2 am b1 b2 bm++[(0,.cells cs sz)]⟩ (λQ a w=>ftA.wp P9 Q a w):=by
 have hok:(ftR md).Ok:=aC1 (aEe hmd) .nil .nil;refine oE (lo:=1) (sz:=168) (c:=ftA) (C:=ftR md) (L:=sV (ftR md) 60) (n:=60) (H0:=⟨6,ftM xs c1 c2 r a1 a2 am b1 b2 bm++[(0,.cells cs sz)]⟩) (O:=ftM xs c1 c2 r a1 a2 am b1 b2 bm) (F:=[]) (E:=[(0,.cells cs sz)]) (ts:=ftT++[10]) (bo:=[5,4,3,1,2]) (bs:=[]) (e1:=ftE n (u (k+1)) (k+1:Nat)) (O1:=ftM xs c1 c2 r a1 a2 am b1 b2 bm) (A:=ftM xs c1 c2 r a1 a2 am b1 b2 bm) (B:=[(0,.cells cs sz)]) (D:=ftM xs c1 c2 r a1 a2 am b1 b2 bm) hok aO (λa _=>lN hok aO 60 a) ?_ rfl rfl bA0 rfl rfl rfl rfl rfl;have e:=bH1 xs.length h0 h6 (Ex×Env×dF) jC kO md vX jJ spdK cQ (nrT kO) (rG xs) n (u k) k c1 c2 r a1 a2 am b1 b2 bm λex e O=>some (ex,e,O)
 rw[wY,aOi]at e;refine e.trans ?_;rw[D7 (show(k:Int)<n by omega),T7];refine(h.gone k hk (Ex×Env×dF) λd1 d2 z1 z2=>_).trans ?_;refine(h.len k hk _ _ _).trans ?_;rw[aK (h.sq k hk),aK (h.u1 k hk),aI,fN (by omega)];rfl
theorem bLx(hmd:cH P9 20 (aGc md))(h0:1<=xs.length)(h6:xs.length<=6)(v:Nat):
  cI P9 1 168 ⟨6,ftM xs c1 c2 r a1 a2 am b1 b2 bm++[(0,.cells cs sz)]⟩ (ftE n v n) ⟨6,ftM xs c1 c2 r a1 a2 am b1 b2 bm++[(0,.cells cs sz)]⟩ (.exit 0) (ftE n v n) ⟨6,ftM xs c1 c2 r a1 a2 am b1 b2 bm++[(0,.cells cs sz)]⟩ (λQ a w=>ftA.wp P9 Q a w):=by
 have hok:(ftR md).Ok:=aC1 (aEe hmd) .nil .nil;refine oE (lo:=1) (sz:=168) (c:=ftA) (C:=ftR md) (L:=sV (ftR md) 60) (n:=60) (H0:=⟨6,ftM xs c1 c2 r a1 a2 am b1 b2 bm++[(0,.cells cs sz)]⟩) (O:=ftM xs c1 c2 r a1 a2 am b1 b2 bm) (F:=[]) (E:=[(0,.cells cs sz)]) (ts:=ftT++[10]) (bo:=[5,4,3,1,2]) (bs:=[]) (e1:=ftE n v n) (O1:=ftM xs c1 c2 r a1 a2 am b1 b2 bm) (A:=ftM xs c1 c2 r a1 a2 am b1 b2 bm) (B:=[(0,.cells cs sz)]) (D:=ftM xs c1 c2 r a1 a2 am b1 b2 bm) hok aO (λa _=>lN hok aO 60 a) ?_ rfl rfl bA0 rfl rfl rfl rfl rfl;have e:=bH1 xs.length h0 h6 (Ex×Env×dF) jC kO md vX jJ spdK cQ (nrT kO) (rG xs) n v n c1 c2 r a1 a2 am b1 b2 bm λex e O=>some (ex,e,O)
 rw[wY,aOi]at e;refine e.trans ?_;rw[E7 (by omega),F7];rfl
theorem aEf(hmd:cH P9 20 (aGc md))(h0:1<=xs.length)(h6:xs.length<=6)(h:Ftu xs c1 c2 r n d z s q u)(hn:n<100000):
  dH P9 1 168 ⟨6,ftM xs c1 c2 r a1 a2 am b1 b2 bm++[(0,.cells cs sz)]⟩ ftA (ftE n 0 (0:Nat)) ⟨6,ftM xs c1 c2 r a1 a2 am b1 b2 bm++[(0,.cells cs sz)]⟩ (.exit 0) (ftE n (u n) n) ⟨6,ftM xs c1 c2 r a1 a2 am b1 b2 bm++[(0,.cells cs sz)]⟩:=by
 have:=fQ (P:=P9) (lo:=1) (sz:=168) (a:=ftA) (H0:=⟨6,ftM xs c1 c2 r a1 a2 am b1 b2 bm++[(0,.cells cs sz)]⟩) (E:=λk:Nat=>ftE n (u k) k) (H:=λ_=>⟨6,ftM xs c1 c2 r a1 a2 am b1 b2 bm++[(0,.cells cs sz)]⟩) (ex:=.exit 0) (e':=ftE n (u n) n) (H':=⟨6,ftM xs c1 c2 r a1 a2 am b1 b2 bm++[(0,.cells cs sz)]⟩) n 0 (λk _ hk=>bLz hmd h0 h6 h hn (by omega)) (gY (by intro h;cases h) (by simp only[Nat.zero_add];exact bLx hmd h0 h6 _));simp only[h.u0]at this;exact this
end
theorem bXm:Has P9 22:=⟨Tryz.f22,_,Tryz.func22,by kernel_rfl,rfl⟩
theorem cDd:Has P9 23:=⟨Tryz.f23,_,Tryz.func23,by kernel_rfl,rfl⟩
theorem cDh:Has P9 24:=⟨Tryz.f24,_,Tryz.func24,by kernel_rfl,rfl⟩
noncomputable def ftK(j a1 a2 am b1 b2 bm:Nat)(is:List V9):Cx:=ftC aG jC kO aEx vX jJ spdK cQ (nrT kO) [(23,bF (rO a1 a2 am 0) (fJ P9 23 (rO a1 a2 am 0))),(24,bF (rO b1 b2 bm 0) (fJ P9 24 (rO b1 b2 bm 0)))] [(22,jA 4 (λb=>ofV (sl3 b j) true) (jL P9 22 4 (λb=>ofV (sl3 b j) true) is))]
theorem bSg(j a1 a2 am b1 b2 bm:Nat)(is:List V9):(ftK j a1 a2 am b1 b2 bm is).Ok:=aC1 (aEe bQn) (.cons (gL rfl) cDd (.cons (gL rfl) cDh .nil)) (.cons aEl bXm .nil)
abbrev vR(s:V9)(x y r m:Int):List V9:=[s,.int .i64 x,.int .i64 y,.int .i64 r,.int .i64 m]
section
variable{xs:List El}{cs:List V9}{sz n0 c c1 c2 r n a1 a2 am b1 b2 bm:Nat}{d z:Nat->Nat×Nat}{s q u:Nat->Nat}{x y rr m:Int}
theorem ft_call(hcs:kZ 0 cs=true)(h0:1<=xs.length)(h6:xs.length<=6)(hn:n<100000)(hU:Ftu xs c1 c2 r n d z s q u)(hN:∀(R:Type)(K:Nat->Nat->Nat->Int->Option R),ftN aG jC kO aEx x y rr m K=K c1 c2 r (n:Int))(hm:oK P9 22 [.slice (some ⟨0,0,none⟩) n0 c,ciV c1 c2 r] ⟨2,[foO 1 c1 c2 r,(0,.cells cs sz)]⟩ (ofV (sl3 2 xs.length) true) (AH.push ⟨2,[foO 1 c1 c2 r,(0,.cells cs sz)]⟩ (.cells (cellsOf xs) 4)))(hO:aD P9 23 [cW 0 xs.length xs.length,ciV c1 c2 r,.int .i64 (n:Int)] ⟨1,[(0,.cells (cellsOf xs) 4)]⟩ (rO a1 a2 am 0))(hB:aD P9 24 [cW 0 xs.length xs.length,ciV c1 c2 r] ⟨1,[(0,.cells (cellsOf xs) 4)]⟩ (rO b1 b2 bm 0))(hZ:∀(R:Type)(X:Option R),ftZ (nrT kO) n (u n) r a1 a2 am b1 b2 bm X=X):
  aD P9 4 (vR (.slice (some ⟨0,0,none⟩) n0 c) x y rr m) ⟨1,[(0,.cells cs sz)]⟩ (.bool true):=by
 have hL:=@gG _ _ _ _ _ _ _ _ _ (aEf (a1:=a1) (a2:=a2) (am:=am) (b1:=b1) (b2:=b2) (bm:=bm) (cs:=cs) (sz:=sz) bQn h0 h6 hU hn);have hl:∃M:dF,iE P9 1 168 (ftI (n:Int) 0 0) ⟨6,ftD xs.length c1 c2 r a1 a2 am b1 b2 bm++[(2,.cells (cellsOf xs) 4),(0,.cells cs sz)]⟩ (.exit 0) (ftE n (u n) n) ⟨6,ftD xs.length c1 c2 r a1 a2 am b1 b2 bm++[(2,.cells (cellsOf xs) 4),(0,.cells cs sz)]⟩ (λQ act w=>Code.wp P9 (.loop ftA) Q act w):=⟨[],hL⟩;obtain⟨_,hl⟩:=hl;have hO':aD P9 23 [flw 2 xs.length,ciV c1 c2 r,.int .i64 (n:Int)] ⟨4,[ftB 3 (sl3 2 xs.length),(2,.cells (cellsOf xs) 4),foO 1 c1 c2 r,(0,.cells cs sz)]⟩ (rO a1 a2 am 0):=aD.one (b:=2) hO (cL xs).2.1 (by simp) rfl;have hB':aD P9 24 [flw 2 xs.length,ciV c1 c2 r] ⟨5,[foO 4 a1 a2 am,ftB 3 (sl3 2 xs.length),(2,.cells (cellsOf xs) 4),foO 1 c1 c2 r,(0,.cells cs sz)]⟩ (rO b1 b2 bm 0):=aD.one (b:=2) hB (cL xs).2.1 (by simp) rfl;have ht:bE (ftK xs.length a1 a2 am b1 b2 bm (cellsOf xs)) 60 (eS ftT [5,4,3,1,2,0] (told P9 (.exit 0) (ftE n (u n) n) ⟨6,ftD xs.length c1 c2 r a1 a2 am b1 b2 bm++[(2,.cells (cellsOf xs) 4),(0,.cells cs sz)]⟩)) 1 168 (bB 4) (gX 0 (vR (.slice (some ⟨0,0,none⟩) n0 c) x y rr m)) ⟨1,[(0,.cells cs sz)]⟩ (aU [10] [] λex e O=>some (ex,e,O))=some (.ret,[(10,.bool true)],[]):=by refine(bSk aG jC kO aEx vX jJ spdK cQ (nrT kO) (jL P9 22 4 (λb=>ofV (sl3 b xs.length) true) (cellsOf xs)) _ _ cs sz n0 c xs.length a1 a2 am b1 b2 bm x y rr m _ _ _).trans ?_;rw[hN];refine(sE hm).trans ?_;refine(cO hO').trans ?_;refine(cO hB').trans ?_;refine(gT @hl _ _).trans ?_;unfold ftQ;rw[cX];refine(ft_end aG jC kO aEx vX jJ spdK cQ (nrT kO) (jL P9 22 4 (λb=>ofV (sl3 b xs.length) true) (cellsOf xs)) _ _ cs (cellsOf xs) sz n (u n) xs.length c1 c2 r a1 a2 am b1 b2 bm _ _ _).trans ?_;exact hZ _ _
 have hok:=bSg xs.length a1 a2 am b1 b2 bm (cellsOf xs);refine fK (C:=ftK xs.length a1 a2 am b1 b2 bm (cellsOf xs)) (n:=60) (f:=4) (fn:=Tryz.f4) (c:=bB 4) (L:=eS ftT [5,4,3,1,2,0] (told P9 (.exit 0) (ftE n (u n) n) ⟨6,ftD xs.length c1 c2 r a1 a2 am b1 b2 bm++[(2,.cells (cellsOf xs) 4),(0,.cells cs sz)]⟩)) (ts:=[10]) (bo:=[]) (ex:=.ret) (e':=[(10,.bool true)]) (O:=[]) (H:=⟨1,[(0,.cells cs sz)]⟩) (args:=vR (.slice (some ⟨0,0,none⟩) n0 c) x y rr m) (vs:=[.bool true]) ?_ ?_ ?_ ?_ ?_ ?_ ?_ ?_ ?_ ?_;· exact hok
 ·exact aO
 ·exact Tryz.func4
 ·exact aI4
 ·exact λa _=>dJ (gN _ _ _ _ a)
 ·exact kK rfl
 ·exact ht
 ·exact .inr rfl
 ·rfl
 ·rfl
end
noncomputable def bHf(P:Q9)(w:Nat->V9):HT:=λR args H k=>
 letI:=Classical.propDecidable
 if oK P 22 args H (ofV (w H.next) false) ⟨H.next+1,H.objs⟩ then k else none
theorem bHh{P:Q9}{w:Nat->V9}:aGw P 22 (bQe w (bHf P w)):=λR args H k r h=>by
 unfold bQe bHf at h;split at h;· rename_i hc;exact⟨_,_,h,hc⟩
 ·cases h
theorem bHg{P:Q9}{w:Nat->V9}{R:Type}{args:List V9}{H:AH}{k:Option R}(h:oK P 22 args H (ofV (w H.next) false) ⟨H.next+1,H.objs⟩):bHf P w R args H k=k:=by unfold bHf;exact if_pos h
section
variable{cs:List V9}{sz c n:Nat}{xs:List Six}{cx cy r:Int}{x y rr m:Int}
theorem aQ3{f:FuncId}{argsc args:List V9}{H H1:AH}{v:V9}{w:Nat->V9}(hcs:kZ 0 cs=true)(hm:(0,qQ.cells cs sz)∈H.objs)(ha:qJ (only 0) argsc=some args)(hv:nH (aFc (only 0) 1 H.next [4]) v=some (w H.next))(hc:∀ρ W args',Inv ρ ⟨1,[(0,.cells cs sz)]⟩ W->cF ρ argsc args'->Calls P9 f ⟨args'⟩ W λe w'=>∃ρ' v',e=.returned v'/\dW ρ' v v'/\Next 1 ρ ⟨1,[(0,.cells cs sz)]⟩ W ρ' H1 w'):
  oK P9 f args H (w H.next) ⟨H.next+1,H.objs⟩:=by
 have:=aA8 (q:=only 0) (bs:=[4]) (A:=[]) (Hc:=⟨1,[(0,.cells cs sz)]⟩) (H:=H) (vO hcs hm) ha hv (λk o2 hk=>by simp at hk) (λj hj=>by simp only[List.mem_singleton]at hj;subst hj;show 1<=4;omega) hc;exact this
theorem aOp(hcs:kZ 0 cs=true)(hr:Rin cx cy r)(hx:aGe cs xs)(hs:(xs.take 6).any (λh=>aG2 cx cy r (mB h))=true)(hN:∀(R:Type)(K:Nat->Nat->Nat->Int->Option R),ftN aG jC kO aEx x y rr m K=K (fI cx) (fI cy) (fI r) (n:Int)):
  aD P9 4 (vR (.slice (some ⟨0,0,none⟩) xs.length c) x y rr m) ⟨1,[(0,.cells cs sz)]⟩ (.bool true):=by
 obtain⟨v,H',hv,g⟩:=aJg (sz:=sz) (c:=c) hr hx hs;rcases hv with rfl|⟨j,rfl⟩
 ·have hm:oK P9 22 [.slice (some ⟨0,0,none⟩) xs.length c,ciV (fI cx) (fI cy) (fI r)] ⟨2,[foO 1 (fI cx) (fI cy) (fI r),(0,.cells cs sz)]⟩ (ofV bL false) ⟨3,[foO 1 (fI cx) (fI cy) (fI r),(0,.cells cs sz)]⟩:=
   aQ3 (H:=⟨2,[foO 1 (fI cx) (fI cy) (fI r),(0,.cells cs sz)]⟩) (w:=λ_=>ofV bL false) hcs (by simp) rfl rfl g
  have ht:=bLv aG jC kO aEx vX jJ spdK cQ (nrT kO) (bHf P9 λ_=>bL) cs sz xs.length c x y rr m (Ex×Env×dF) λex e O=>some (ex,e,O)
  rw[hN]at ht;have ht:=ht.trans (bHg hm);exact fK (C:=ftC aG jC kO aEx vX jJ spdK cQ (nrT kO) [] [(22,bQe (λ_=>bL) (bHf P9 λ_=>bL))]) (args:=vR (.slice (some ⟨0,0,none⟩) xs.length c) x y rr m) (H:=⟨1,[(0,.cells cs sz)]⟩) (aC1 (aEe bQn) .nil (.cons bHh bXm .nil)) aO (L:=noL) Tryz.func4 aI4 (λa _=>qU) (kK rfl) ht (.inr rfl) (vs:=[.bool true]) rfl rfl
 ·have hm:oK P9 22 [.slice (some ⟨0,0,none⟩) xs.length c,ciV (fI cx) (fI cy) (fI r)] ⟨2,[foO 1 (fI cx) (fI cy) (fI r),(0,.cells cs sz)]⟩ (ofV (sl3 2 j) false) ⟨3,[foO 1 (fI cx) (fI cy) (fI r),(0,.cells cs sz)]⟩:=
   aQ3 (H:=⟨2,[foO 1 (fI cx) (fI cy) (fI r),(0,.cells cs sz)]⟩) (w:=λb=>ofV (sl3 b j) false) hcs (by simp) rfl rfl g
  have ht:=bLw aG jC kO aEx vX jJ spdK cQ (nrT kO) (bHf P9 λb=>sl3 b j) cs sz xs.length c j x y rr m (Ex×Env×dF) λex e O=>some (ex,e,O)
  rw[hN]at ht;have ht:=ht.trans (bHg hm);exact fK (C:=ftC aG jC kO aEx vX jJ spdK cQ (nrT kO) [] [(22,bQe (λb=>sl3 b j) (bHf P9 λb=>sl3 b j))]) (args:=vR (.slice (some ⟨0,0,none⟩) xs.length c) x y rr m) (H:=⟨1,[(0,.cells cs sz)]⟩) (aC1 (aEe bQn) .nil (.cons bHh bXm .nil)) aO (L:=noL) Tryz.func4 aI4 (λa _=>qU) (kK rfl) ht (.inr rfl) (vs:=[.bool true]) rfl rfl
end
open Go.Proofs Ieee
theorem bFd{w:Nat}{N:Int}(h:Is w N)(h0:0<=N)(h1:N<=999):fbF .add 4607182418800017408 w=some (fI (1+N)):=by
 have hN0:((0:Int):Rat)<=(N:Rat):=Rat.intCast_le_intCast.2 h0;have hN1:(N:Rat)<=((999:Int):Rat):=Rat.intCast_le_intCast.2 h1;obtain⟨p,P,e,i,q⟩:=mJ bIu h (kL (aA.2 ⟨by grind,by grind⟩));have eP:P=((1+N:Int):Rat):=by
  have e1:(1:Rat)+(N:Rat)=((1+N:Int):Rat):=by push_cast;rfl
  rw[e1]at q;exact aBv (by omega) q
 subst eP;have g1:(1:Rat)<=(((1+N:Int):Rat)).abs:=by
  have e1:((1+N:Int):Rat)=(1:Rat)+(N:Rat):=by push_cast;rfl
  rw[e1,fZ (by grind)];grind
 rw[e,uA i (jF (n:=1+N) (by omega)) g1]
theorem aRw(x y rr m:Int):∃(cx cy r:Int)(n:Nat),Rin cx cy r/\128<=n/\n<=512/\∀(R:Type)(K:Nat->Nat->Nat->Int->Option R),ftN aG jC kO aEx x y rr m K=K (fI cx) (fI cy) (fI r) (n:Int):=by have b1:=yZ x;have b2:=yZ y;have b3:=yZ rr;obtain⟨w',N,n0,n1,iN,hmod⟩:=bE1 (w:=fI ((Wn rr).natAbs:Nat)) (M:=(Wn rr).natAbs) (jF (by omega)) b3;have h1:=Int.tmod_lt_of_pos m (show(0:Int)<385 by decide);have h2:=Int.lt_tmod_of_pos m (show(0:Int)<385 by decide);have h3:=Int.tmod_lt_of_pos (m.tmod 385+385) (show(0:Int)<385 by decide);have h4:=Int.tmod_nonneg 385 (show 0<=m.tmod 385+385 by omega);refine⟨Wn x,Wn y,1+N,(128+(m.tmod 385+385).tmod 385).toNat,⟨by omega,by omega,by omega,by omega⟩,by omega,by omega,λR K=>?_⟩;unfold ftN aEx;rw[mU,mU,mU,aN2,bHs (by omega)];rw[show N9 4652007308841189376 4652007308841189376=true from rfl,T7,hmod,aK (bFd iN n0 n1),aI,aI,qH (by omega) (by omega),aI,aI,qH (by omega) (by omega)];congr 1;omega
open Go.Proofs Go.ChangeShapes Go.WideShapes Go.ChangeAt Go.RowKit Go.Deep
section
variable{H:Type}{enc:I9×V9->H}{w:W9}{base:Nat}{spare:Nat->Bool}{held:Bool}
theorem bF3{fuel:Nat}{cs:List V9}{x:DataW H×List MemPlace}(h:DataW.trod enc P9 w base spare held fuel 97 cs=some x):∃(t:Six)(d:DataW H),cs=t.cs/\x=(d,[]):=by
 obtain⟨xs,n,_,rfl,hl,hlen,hf⟩:=DataW.trod_struct Tryz.underlying97 h
 match xs,hlen with
 |[y0,y1,y2,y3,y4,y5],_=>
  obtain⟨n0,e0,q0,_⟩:=DataW.trod_int Tryz.underlying3 (by simpa using hf 0 _ rfl);obtain⟨n1,e1,q1,_⟩:=DataW.trod_int Tryz.underlying3 (by simpa using hf 1 _ rfl);obtain⟨n2,e2,q2,_⟩:=DataW.trod_int Tryz.underlying3 (by simpa using hf 2 _ rfl);obtain⟨n3,e3,q3,_⟩:=DataW.trod_int Tryz.underlying3 (by simpa using hf 3 _ rfl);obtain⟨n4,e4,q4,_⟩:=DataW.trod_int Tryz.underlying3 (by simpa using hf 4 _ rfl);obtain⟨n5,e5,q5,_⟩:=DataW.trod_int Tryz.underlying3 (by simpa using hf 5 _ rfl);have hl':cs.length=6:=hl
  match cs,hl' with
  |[a,b,c,d,e,f],_=>have e0':[a]=[V9.int .i64 n0]:=e0;have e1':[b]=[V9.int .i64 n1]:=e1;have e2':[c]=[V9.int .i64 n2]:=e2;have e3':[d]=[V9.int .i64 n3]:=e3;have e4':[e]=[V9.int .i64 n4]:=e4;have e5':[f]=[V9.int .i64 n5]:=e5;simp only[List.cons.injEq,and_true]at e0' e1' e2' e3' e4' e5';subst e0' e1' e2' e3' e4' e5' q0 q1 q2 q3 q4 q5;exact⟨⟨n0,n1,n2,n3,n4,n5⟩,_,rfl,rfl⟩
end
instance:Inhabited Six:=⟨⟨0,0,0,0,0,0⟩⟩
theorem Six.cs_len(h:Six):h.cs.length=6:=rfl
theorem bF4{W:W9}{a:Addr}{n:Nat}{hs:Nat->Six}(ha:a.spot=none)(hn:0<n)(hr:∀i,i<n->W.cells? 0 (a.add (i*6)) 6=some (hs i).cs)(hfz:∀j,j<n*6->W.frozen? ⟨a.block,a.off+j,none⟩=false):
  ∃cs,aGe cs ((List.range n).map hs)/\kZ 0 cs=true/\Inv (aMp ⟨a.block,a.off,0⟩) ⟨1,[(0,.cells cs 6)]⟩ W:=by
 have cellAt:∀i j,i<n->j<6->W.cell? ⟨a.block,a.off+(i*6+j),none⟩=(hs i).cs[j]?:=λi j hi hj=>by
  have:=(W9.cells?_some (hr i hi)).2.2 j hj;rw[add_add]at this;have e:a.add (i*6+j)=⟨a.block,a.off+(i*6+j),none⟩:=by
   unfold Addr.add;split;· rename_i h0;rw[h0,Nat.add_zero];cases a;simp only at ha;subst ha;rfl
   ·rfl
  rw[e]at this;exact this
 have h00:=cellAt 0 0 hn (by omega);have hex:∃arr ty fr,W.heap[a.block]?=some (.cells arr ty fr):=by
  unfold W9.cell? at h00;simp only at h00;split at h00;· rename_i c e fr hh;exact⟨_,_,_,hh⟩
  ·rename_i hno;have:(hs 0).cs[0]?=some (.int .i64 (hs 0).kind):=rfl;rw[this]at h00;cases h00
 obtain⟨arr,ty,fr,hb⟩:=hex;have arrAt:∀i j,i<n->j<6->arr[a.off+(i*6+j)]?=(hs i).cs[j]?:=λi j hi hj=>by have:=cellAt i j hi hj;unfold W9.cell? at this;simpa[hb] using this
 have some6:∀(t:Six) j,j<6->∃v,t.cs[j]?=some v/\inn 0 v=true:=λt j hj=>by
  match j,hj with
  |0,_=>exact⟨_,rfl,rfl⟩
  |1,_=>exact⟨_,rfl,rfl⟩
  |2,_=>exact⟨_,rfl,rfl⟩
  |3,_=>exact⟨_,rfl,rfl⟩
  |4,_=>exact⟨_,rfl,rfl⟩
  |5,_=>exact⟨_,rfl,rfl⟩
 have hsize:a.off+n*6<=arr.size:=by
  have h1:=arrAt (n-1) 5 (by omega) (by omega);obtain⟨v,hv,_⟩:=some6 (hs (n-1)) 5 (by omega);rw[hv]at h1;have:=(Array.getElem?_eq_some_iff.1 h1).1;omega
 let cs:List V9:=(arr.toList.drop a.off).take (n*6)
 have hlen:cs.length=n*6:=by show((arr.toList.drop a.off).take (n*6)).length=_;rw[List.length_take,List.length_drop,Array.length_toList];omega
 have hget:∀k,k<n*6->cs[k]?=arr[a.off+k]?:=λk hk=>by show((arr.toList.drop a.off).take (n*6))[k]?=_;rw[List.getElem?_take_of_lt hk,List.getElem?_drop,Array.getElem?_toList]
 have hthing:∀i,i<n->∃rest,cs.drop (0+i*6)=(hs i).cs++rest:=λi hi=>by
  refine⟨cs.drop (i*6+6),?_⟩;rw[Nat.zero_add];apply List.ext_getElem?;intro k;rw[List.getElem?_drop];by_cases hk:k<6;· rw[List.getElem?_append_left (by rw[Six.cs_len];exact hk),hget _ (by omega),<-arrAt i k hi hk]
  ·rw[List.getElem?_append_right (by rw[Six.cs_len];omega),List.getElem?_drop,Six.cs_len];congr 1;omega
 have hflat:kZ 0 cs=true:=aR8 λv hv=>by
  obtain⟨k,hk,rfl⟩:=List.mem_iff_getElem.1 hv;rw[hlen]at hk;have e1:cs[k]?=some cs[k]:=List.getElem?_eq_getElem (by rw[hlen];exact hk);have hm:=Nat.mod_lt k (show 0<6 by omega);have hq:k/6<n:=by omega
  rw[hget k hk,show a.off+k=a.off+(k/6*6+k%6) by omega,arrAt _ _ hq hm]at e1;obtain⟨v,hv1,hv2⟩:=some6 (hs (k/6)) (k%6) hm;rw[hv1]at e1;rw[<-Option.some.inj e1];exact hv2
 refine⟨cs,λi t hi=>?_,hflat,⟨λk hk=>?_,λk o hm=>?_,λk o o' h1 h2=>?_,⟨λk o hm=>?_,λk o k' o' s1 s1' h1 h2 _ _ _=>?_⟩⟩⟩
 ·rw[List.getElem?_map]at hi;cases hri:(List.range n)[i]? with
  |none=>rw[hri]at hi;cases hi
  |some q=>rw[hri]at hi;obtain⟨hlt,hq⟩:=List.getElem?_eq_some_iff.1 hri;rw[List.getElem_range]at hq;subst hq;rw[List.length_range]at hlt;cases hi;exact hthing i hlt
 ·have hk1:1<=k:=hk;unfold aMp;cases hb:N9 k 0 with
  |true=>have:=gO hb;omega
  |false=>rfl
 ·simp only[List.mem_singleton,Prod.mk.injEq]at hm;show k<1;omega
 ·simp only[List.mem_singleton,Prod.mk.injEq]at h1 h2;rw[h1.2,h2.2]
 ·simp only[List.mem_singleton,Prod.mk.injEq]at hm;obtain⟨rfl,rfl⟩:=hm;refine⟨_,rfl,arr,ty,cs,⟨⟨fr,hb⟩,λj hj=>hfz j (by simp only[hlen]at hj;omega)⟩,cF.ofFlat _ hflat,λi v hv=>?_,?_,λh=>by cases h⟩
  ·have hi:=(List.getElem?_eq_some_iff.1 hv).1;rw[hlen]at hi;rw[hget i hi]at hv;exact hv
  ·simp only[hlen];omega
 ·simp only[List.mem_singleton,Prod.mk.injEq]at h1 h2;rw[h1.1,h2.1]
def bG8(xs:List El)(c1 c2 r n:Nat):Prop:=∃(d z:Nat->Nat×Nat)(s q u:Nat->Nat)(a1 a2 am b1 b2 bm:Nat),Ftu xs c1 c2 r n d z s q u/\
 aD P9 23 [cW 0 xs.length xs.length,ciV c1 c2 r,.int .i64 (n:Int)] ⟨1,[(0,.cells (cellsOf xs) 4)]⟩ (rO a1 a2 am 0)/\
 aD P9 24 [cW 0 xs.length xs.length,ciV c1 c2 r] ⟨1,[(0,.cells (cellsOf xs) 4)]⟩ (rO b1 b2 bm 0)/\
 ∀(R:Type)(X:Option R),ftZ (nrT kO) n (u n) r a1 a2 am b1 b2 bm X=X
section
variable{cs:List V9}{sz c n:Nat}{xs:List Six}{cx cy r:Int}{x y rr m:Int}
theorem aU4{f:FuncId}{argsc args:List V9}{os:List V9}{t:Nat}{H H1:AH}{v:Nat->V9}(hcs:kZ 0 cs=true)(hos:kZ 0 os=true)(hm:(0,qQ.cells cs sz)∈H.objs)(ha:qJ (only 0) argsc=some args)(hv:nH (aFc (only 0) 1 H.next [4]) (v 4)=some (v H.next))(hH1:(4,qQ.cells os t)∈H1.objs)(hc:∀ρ W args',Inv ρ ⟨1,[(0,.cells cs sz)]⟩ W->cF ρ argsc args'->Calls P9 f ⟨args'⟩ W λe w'=>∃ρ' v',e=.returned v'/\dW ρ' (v 4) v'/\Next 1 ρ ⟨1,[(0,.cells cs sz)]⟩ W ρ' H1 w'):
  oK P9 f args H (v H.next) (H.push (.cells os t)):=
 aA8 (q:=only 0) (bs:=[4]) (A:=[(H.next,.cells os t)]) (Hc:=⟨1,[(0,.cells cs sz)]⟩) (H:=H) (vO hcs hm) ha hv (λk o2 hk=>by
  simp only[List.mem_singleton,Prod.mk.injEq]at hk;obtain⟨rfl,rfl⟩:=hk;exact⟨4,_,hH1,by simp[sL],by simp[pN,bQ hos]⟩) (λj hj=>by
  simp only[List.mem_singleton]at hj;subst hj;show 1<=4;omega) hc
theorem bSj(hM:∀(xs:List Six)(cx cy r:Int)(n:Nat),Rin cx cy r->128<=n->n<=512->1<=xs.length->xs.length<=6->(∀h∈xs,aG2 cx cy r (mB h)=false)->bG8 (mks xs) (fI cx) (fI cy) (fI r) n)(hcs:kZ 0 cs=true)(hx:aGe cs xs)(h0:0<xs.length):aD P9 4 (vR (.slice (some ⟨0,0,none⟩) xs.length c) x y rr m) ⟨1,[(0,.cells cs sz)]⟩ (.bool true):=by
 obtain⟨cx,cy,r,n,hr,n1,n2,hN⟩:=aRw x y rr m;cases hb:(xs.take 6).any (λh=>aG2 cx cy r (mB h)) with
 |true=>exact aOp hcs hr hx hb hN
 |false=>
  have hg:∀h∈xs.take 6,aG2 cx cy r (mB h)=false:=λh hm=>by have:=List.any_eq_false.1 hb h hm;simpa using this
  obtain⟨d,z,s,q,u,a1,a2,am,b1,b2,bm,hU,hO,hB,hZ⟩:=hM (xs.take 6) cx cy r n hr n1 n2 (by rw[List.length_take];omega) (by rw[List.length_take];omega) hg;obtain⟨H',hH,g⟩:=aZp (sz:=sz) (c:=c) hr hx h0 hg;have hl:(mks (xs.take 6)).length=six xs.length:=by rw[aEy,List.length_take];unfold six;omega
  have h1:1<=(mks (xs.take 6)).length:=by rw[hl];unfold six;omega
  have h6:(mks (xs.take 6)).length<=6:=by rw[hl];unfold six;omega
  rw[<-hl]at g;have hm:=aU4 (sz:=sz) (v:=λk=>ofV (sl3 k (mks (xs.take 6)).length) true) (H:=⟨2,[foO 1 (fI cx) (fI cy) (fI r),(0,.cells cs sz)]⟩) (args:=[.slice (some ⟨0,0,none⟩) xs.length c,ciV (fI cx) (fI cy) (fI r)]) hcs (cL (mks (xs.take 6))).2.1 (by simp) rfl rfl hH g;exact ft_call hcs h1 h6 (by omega) hU hN hm hO hB hZ
end
end Go.Vm
namespace Go.Proofs.YtaogignikkjkjaaGreat
open Go.ChangeShapes Go.WideShapes Go.ChangeAt Go.RowKit Go.Vm Go.Deep
theorem cAq:ownKnob Tryz.prog.godebug=none:=by kernel_rfl
theorem aMe:laidOutB P9=true:=by kernel_rfl
section
variable{P:Q9}{H:Type}{enc:I9×V9->H}{w:W9}{base:Nat}{spare:Nat->Bool}{held:Bool}
theorem aNj{t ta tb tc td:I9}{args:Array V9}{ds:List (DataW H)}{ps:List MemPlace}(h:DataW.TrodAll enc P w base spare held [t,ta,tb,tc,td] args.toList ds ps):
  ∃v va vb vc vd d da db dc dd p pa pb pc pd,args=#[v,va,vb,vc,vd]/\ds=[d,da,db,dc,dd]/\ps=p++pa++pb++pc++pd/\DataW.Trod enc P w base spare held t v d p/\DataW.Trod enc P w base spare held ta va da pa/\DataW.Trod enc P w base spare held tb vb db pb/\DataW.Trod enc P w base spare held tc vc dc pc/\DataW.Trod enc P w base spare held td vd dd pd:=by
 obtain⟨v,l1,d,e1,p,q1,hargs,rfl,rfl,h0,r1⟩:=trodAll_cons h;obtain⟨va,l2,da,e2,pa,q2,rfl,rfl,rfl,h1,r2⟩:=trodAll_cons r1;obtain⟨vb,l3,db,e3,pb,q3,rfl,rfl,rfl,h2,r3⟩:=trodAll_cons r2;obtain⟨vc,l4,dc,e4,pc,q4,rfl,rfl,rfl,h3,r4⟩:=trodAll_cons r3;obtain⟨vd,l5,dd,e5,pd,q5,rfl,rfl,rfl,h4,r5⟩:=trodAll_cons r4;obtain⟨rfl,rfl,rfl⟩:=trodAll_nil r5;exact⟨v,va,vb,vc,vd,d,da,db,dc,dd,p,pa,pb,pc,pd,by cases args;simp_all,rfl,by simp,h0,h1,h2,h3,h4⟩
theorem aQr{t ta tb tc td:I9}{v va vb vc vd:V9}{d da db dc dd:DataW H}{p pa pb pc pd:List MemPlace}(h:DataW.Trod enc P w base spare held t v d p)(h1:DataW.Trod enc P w base spare held ta va da pa)(h2:DataW.Trod enc P w base spare held tb vb db pb)(h3:DataW.Trod enc P w base spare held tc vc dc pc)(h4:DataW.Trod enc P w base spare held td vd dd pd):DataW.TrodAll enc P w base spare held [t,ta,tb,tc,td] [v,va,vb,vc,vd] [d,da,db,dc,dd] (p++(pa++(pb++(pc++pd)))):=
 ⟨p,pa++(pb++(pc++pd)),h,trodAll_mk4 h1 h2 h3 h4,rfl⟩
end
abbrev LawM:Prop:=∀(xs:List Six)(cx cy r:Int)(n:Nat),Rin cx cy r->128<=n->n<=512->1<=xs.length->xs.length<=6->(∀h∈xs,aG2 cx cy r (mB h)=false)->bG8 (mks xs) (fI cx) (fI cy) (fI r) n
abbrev LawN:Prop:=∀(s:V9)(x y r m:Int),(s=bL\/∃c,s=.slice (some ⟨0,0,none⟩) 0 c)->aD P9 4 (vR s x y r m) ⟨1,[]⟩ (.bool true)
theorem aGu(hM:LawM)(hN:LawN)(H:Type)(enc:I9×V9->H)(W:W9)(base:Nat)(args:Array V9)(ds gs:List (DataW H))(before:List MemPlace)(hval0:∀(j:Nat) t v,Tryz.f4.params[j]?=some t->args[j]?=some v->V9.okWide P9 W .any base t v)(hW:DataW.Whole enc P9 Tryz.f4.params.toList Rows.forceTwiceSpec.vars false W args.toList ds gs before):
  Calls P9 4 args W λe W'=>∃v,e=.returned v/\Rows.forceTwiceSpec.post enc P9 Tryz.f4 false true false false W args v W':=by
 have hval:∀(j:Nat) t v,Tryz.f4.params[j]?=some t->args[j]?=some v->V9.okWide P9 W .any base t v:=hval0;have hW':=hW;obtain⟨p,q,hA0,hV,rfl,hfz,_⟩:=hW;have hA:DataW.TrodAll enc P9 W 0 (λ_=>true) true Tryz.f4.params.toList args.toList ds p:=hA0;rw[Tryz.params4]at hA hval;obtain⟨v0,v1,v2,v3,v4,d0,d1,d2,d3,d4,p0,p1,p2,p3,p4,rfl,rfl,rfl,h0,h1,h2,h3,h4⟩:=aNj hA;obtain⟨rfl,rfl⟩:=trodVars_none hV;have h0k:=h0;have h1k:=h1;have h2k:=h2;have h3k:=h3;have h4k:=h4;obtain⟨x,rfl,rfl,rfl,hx1⟩:=open_int Tryz.underlying3 (hval 1 3 v1 rfl rfl) h1;obtain⟨y,rfl,rfl,rfl,hx2⟩:=open_int Tryz.underlying3 (hval 2 3 v2 rfl rfl) h2;obtain⟨r,rfl,rfl,rfl,hx3⟩:=open_int Tryz.underlying3 (hval 3 3 v3 rfl rfl) h3;obtain⟨n,rfl,rfl,rfl,hx4⟩:=open_int Tryz.underlying3 (hval 4 3 v4 rfl rfl) h4;clear hA0 hval0;simp only[List.append_nil]at hW' hfz;have hlt:∀z∈p0,z.block<W.heap.size:=λz hz=>by simpa using hW'.lt z hz
 have fin:∀(W':W9),Below W.heap.size W W'->Rows.forceTwiceSpec.post enc P9 Tryz.f4 false true false false W #[v0,.int .i64 x,.int .i64 y,.int .i64 r,.int .i64 n] (.bool true) W':=by intro W' hb;refine⟨_,_,_,[],p0++([]++([]++([]++[]))),[],hW',?_,aQr (Below.trod aMe (by kernel_rfl) (of_decide_eq_true (by kernel_rfl)) h0k hb hlt) (Below.trod aMe (by kernel_rfl) (of_decide_eq_true (by kernel_rfl)) h1k hb (λz hz=>by cases hz)) (Below.trod aMe (by kernel_rfl) (of_decide_eq_true (by kernel_rfl)) h2k hb (λz hz=>by cases hz)) (Below.trod aMe (by kernel_rfl) (of_decide_eq_true (by kernel_rfl)) h3k hb (λz hz=>by cases hz)) (Below.trod aMe (by kernel_rfl) (of_decide_eq_true (by kernel_rfl)) h4k hb (λz hz=>by cases hz)),rfl,hb.frame _,λh=>by cases h⟩;exact trodAll_mk1 (shut_bool Tryz.underlying4 true)
 obtain⟨a0,len0,cap0,hv0⟩:=okWide_slice Tryz.underlying50 (hval 0 50 v0 rfl rfl);obtain⟨fuel,hf⟩:=h0;rcases open_slice Tryz.underlying50 hf with ⟨hcs,hx⟩|⟨a,len,cap,m,k,D,Pl,hcs,_,hlc,_,hm,hx,hel⟩
 ·have ev:v0=.slice none 0 0:=by subst hv0;simpa[V9.cells] using hcs
  subst ev;have hc:=hN bL x y r n (.inl rfl);refine(hc (λ_=>none) W _ ⟨λ_ _=>rfl,λk o hm=>by simp at hm,λk o o' hm=>by simp at hm,⟨λk o hm=>by simp at hm,λk o k' o' s s' hm=>by simp at hm⟩⟩ (.cons (.nilSlice 0 0) (.cons (.int _ _) (.cons (.int _ _) (.cons (.int _ _) (.cons (.int _ _) .nil)))))).mono λe W' ⟨he,hb⟩=>?_
  subst he;exact⟨_,rfl,fin W' hb⟩
 ·have ev:v0=.slice (some a) len cap:=by subst hv0;simpa[V9.cells] using hcs
  subst ev;have hspot:a.spot=none:=by have:=hval 0 50 _ rfl rfl;simp only[V9.okWide,Tryz.underlying50,Cell.okWide,Cell.ok]at this;exact this.2.2.2.1
  have ea:(⟨a.block,a.off+0,none⟩:Addr)=a:=by cases a;simp only at hspot;subst hspot;rfl
  have hm':m=cap:=by simpa using hm
  have hsl:∀{ρ:Map},ρ 0=some ⟨a.block,a.off,0⟩->cF ρ [.slice (some ⟨0,0,none⟩) len cap,.int .i64 x,.int .i64 y,.int .i64 r,.int .i64 n] [.slice (some a) len cap,.int .i64 x,.int .i64 y,.int .i64 r,.int .i64 n]:=λ{ρ} hρ=>by have:=dW.slice (ρ:=ρ) (k:=0) (o:=0) (n:=len) (c:=cap) (s:=⟨a.block,a.off,0⟩) hρ;simp only[Nat.add_zero]at this;rw[Nat.add_zero]at ea;rw[ea]at this;exact .cons this (.cons (.int _ _) (.cons (.int _ _) (.cons (.int _ _) (.cons (.int _ _) .nil))))
  have bare:aD P9 4 (vR (.slice (some ⟨0,0,none⟩) len cap) x y r n) ⟨1,[]⟩ (.bool true)->Calls P9 4 #[.slice (some a) len cap,.int .i64 x,.int .i64 y,.int .i64 r,.int .i64 n] W λe W'=>∃v,e=.returned v/\Rows.forceTwiceSpec.post enc P9 Tryz.f4 false true false false W #[.slice (some a) len cap,.int .i64 x,.int .i64 y,.int .i64 r,.int .i64 n] v W':=λhc=>by
   refine(hc (aMp ⟨a.block,a.off,0⟩) W _ ⟨λk hk=>?_,λk o hm=>by simp at hm,λk o o' hm=>by simp at hm,⟨λk o hm=>by simp at hm,λk o k' o' s s' hm=>by simp at hm⟩⟩ (hsl rfl)).mono λe W' ⟨he,hb⟩=>?_
   ·have hk1:1<=k:=hk;unfold aMp;cases hb:N9 k 0 with
    |true=>have:=gO hb;omega
    |false=>rfl
   ·subst he;exact⟨_,rfl,fin W' hb⟩
  rcases Nat.eq_zero_or_pos len with hz|hpos;· subst hz;exact bare (hN _ x y r n (.inr ⟨cap,rfl⟩))
  ·obtain⟨T,hT⟩:=choose_lt (α:=Six) (n:=len) (p:=λi t=>W.cells? 0 (a.add (i*6)) 6=some t.cs) (λi hi=>by obtain⟨cs',g1,g2⟩:=hel i (by omega);obtain⟨t,d,k1,k2⟩:=bF3 g2;subst k1;exact⟨t,g1⟩);have hp0:p0=MemPlace.row a (m*Tryz.prog.cellsOf 97)++(List.range m).flatMap Pl:=congrArg Prod.snd hx;obtain⟨cs,c1,c2,c3⟩:=bF4 (hs:=T) hspot hpos (λi hi=>hT i hi) (λj hj=>by refine hfz a.block (a.off+j) ?_;rw[hp0];refine List.mem_append_left _ ?_;unfold MemPlace.row;refine List.mem_map.2 ⟨j,List.mem_range.2 ?_,rfl⟩;have h6:Tryz.prog.cellsOf 97=6:=rfl;rw[h6];have:=Nat.mul_le_mul_right 6 (show len<=m by omega);omega);have hlen:((List.range len).map T).length=len:=by simp
   have hc:=bSj (c:=cap) (sz:=6) (x:=x) (y:=y) (rr:=r) (m:=n) hM c2 c1 (by omega);rw[hlen]at hc;refine(hc (aMp ⟨a.block,a.off,0⟩) W _ c3 (hsl rfl)).mono λe W' ⟨he,hb⟩=>?_
   subst he;exact⟨_,rfl,fin W' hb⟩
theorem aBd(hM:LawM)(hN:LawN)(os:Os)(started:os.Started)(H:Type)(enc:I9×V9->H):
  ReturnsInHanded {} Tryz.checked os 4 .any (Rows.forceTwiceSpec.pre6 enc P9 Tryz.f4 Rows.forceTwiceRow.domain false) (Rows.forceTwiceSpec.post enc P9 Tryz.f4 false true false false):=by
 refine returnsInHanded_of_change (C:=Tryz.checked) cAq started (by kernel_rfl) Tryz.func4
  (ChangeSpec.witness6 (enc:=enc) (C:=Tryz.checked) false ⟨#[],#[.slice none 0 0,.int .i64 0,.int .i64 0,.int .i64 0,.int .i64 0],[]⟩ 8 (by kernel_rfl) (by kernel_rfl) (by kernel_rfl) (by kernel_rfl)) ?_
 intro W base args ds gs before hval hW _ _;exact aGu hM hN H enc W base args ds gs before hval hW
theorem aI3(hM:LawM)(hN:LawN):Rows.ForceTwiceSaid:=
 OpenClaim.holds_of_wide 4 Tryz.f4 rfl rfl rfl rfl rfl rfl rfl ⟨rfl,rfl,rfl,rfl,rfl⟩ rfl rfl rfl rfl rfl (by kernel_rfl) Tryz.func4 (by kernel_rfl)
  (of_decide_eq_true (by kernel_rfl)) (by unfold Func.isWrapper;first|(rw[if_pos (by decide +kernel)];kernel_rfl)|(rw[if_neg (by decide +kernel)];exact⟨rfl,rfl⟩))
  (λos started H enc _=>aBd hM hN os started H enc)
end Go.Proofs.YtaogignikkjkjaaGreat
