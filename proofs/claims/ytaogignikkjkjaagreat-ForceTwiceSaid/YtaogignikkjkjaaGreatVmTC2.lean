/- A part; no conditions. -/
import Derived.Test.YtaogignikkjkjaaGreatVmTB8
set_option maxRecDepth 1000000
set_option maxHeartbeats 1000000
set_option linter.all false
open Go.Proofs.Tryz renaming prog->P9
open Option renaming bind_some->D9
open Go renaming Value->V9,IntKind->K9
namespace Go.Vm
open Go.Proofs
def atM(os:List El)(iv:V9):AH:=⟨4,obE 1 os++atO iv (lv 1 os.length)⟩
def AtV(os:List El)(val:Nat->Nat->Int->Nat×Nat)(a1 a2:Nat)(m:Int):Prop:=
 ∀iv,aD P9 68 [.pointer (some ⟨0,0,none⟩),.complex .f64 a1 a2,.int .i64 m] (atM os iv) (.complex .f64 (val a1 a2 m).1 (val a1 a2 m).2)
def atQ(j:Nat):Option Nat:=match j with
 |0=>some 6
 |1=>some 7
 |2=>some 5
 |3=>some 8
 |_=>none
theorem bKb:∀j j' k,atQ j=some k->atQ j'=some k->j=j':=λj j' k h1 h2=>by unfold atQ at h1 h2;split at h1<;>split at h2<;>simp_all<;>omega
theorem bKa:∀j k,atQ j=some k->j<4:=λj k h=>by unfold atQ at h;split at h<;>first|omega|cases h
theorem aN5{os:List El}{val:Nat->Nat->Int->Nat×Nat}{a1 a2:Nat}{m:Int}(h:AtV os val a1 a2 m){H:AH}{ni:Nat}(hb:fbB (sl3 8 ni) (lv 7 os.length)∈H.objs)(h5:(5,qQ.map .u8 aUw)∈H.objs)(h7:∀u∈obE 7 os,u∈H.objs):
  aD P9 68 [.pointer (some ⟨6,0,none⟩),.complex .f64 a1 a2,.int .i64 m] H (.complex .f64 (val a1 a2 m).1 (val a1 a2 m).2):=by
 refine tS (q:=atQ) (Hc:=atM os (sl3 3 ni)) (argsc:=[.pointer (some ⟨0,0,none⟩),.complex .f64 a1 a2,.int .i64 m]) ?_ rfl (h (sl3 3 ni));have mem:∀{j:Nat}{o:qQ},(j,o)∈(atM os (sl3 3 ni)).objs->((j,o)∈obE 1 os)\/(j=0/\o=.cells [sl3 3 ni,lv 1 os.length,.map (some 2)] 0)\/(j=2/\o=.map .u8 aUw):=λ{j o} hm=>by unfold atM atO at hm;simp only[List.mem_append,List.mem_cons,Prod.mk.injEq,List.not_mem_nil,or_false]at hm;exact hm
 have one:∀{j:Nat}{o:qQ},(j,o)∈obE 1 os->j=1/\o=.cells (cellsOf os) 4/\(7,qQ.cells (cellsOf os) 4)∈obE 7 os:=λ{j o} hm=>by
  cases os with
  |nil=>simp[obE]at hm
  |cons x l=>simp only[obE,List.mem_singleton,Prod.mk.injEq]at hm;exact⟨hm.1,hm.2,by simp[obE]⟩
 exact
  {obj:=λj o hm=>by
    rcases mem hm with g|⟨rfl,rfl⟩|⟨rfl,rfl⟩;· obtain⟨rfl,rfl,g7⟩:=one g;exact⟨7,.cells (cellsOf os) 4,rfl,by simp[pN,bQ (cL os).2.1],h7 _ g7⟩
    ·refine⟨6,.cells [sl3 8 ni,lv 7 os.length,.map (some 5)] 0,rfl,?_,hb⟩;cases hl:os.length<;>rfl
    ·exact⟨5,.map .u8 aUw,rfl,rfl,h5⟩
   lt:=λj o hm=>by
    show j<4;rcases mem hm with g|⟨rfl,rfl⟩|⟨rfl,rfl⟩;· obtain⟨rfl,_⟩:=one g;omega
    ·omega
    ·omega
   one:=λj o o' h1 h2=>by
    rcases mem h1 with g|⟨e1,e2⟩|⟨e1,e2⟩<;>rcases mem h2 with g' | ⟨f1,f2⟩|⟨f1,f2⟩
    ·rw[(one g).2.1,(one g').2.1]
    ·have:=(one g).1;omega
    ·have:=(one g).1;omega
    ·have:=(one g').1;omega
    ·rw[e2,f2]
    ·omega
    ·have:=(one g').1;omega
    ·omega
    ·rw[e2,f2]
   inj:=bKb
   dom:=bKa }
noncomputable def qG(val:Nat->Nat->Int->Nat×Nat):KAt:=λR a1 a2 m H k=>
 letI:=Classical.propDecidable
 if aD P9 68 [.pointer (some ⟨6,0,none⟩),.complex .f64 a1 a2,.int .i64 m] H (.complex .f64 (val a1 a2 m).1 (val a1 a2 m).2) then k (val a1 a2 m).1 (val a1 a2 m).2 else none
theorem bCd(val:Nat->Nat->Int->Nat×Nat):aDn P9 68 (bNu (qG val)):=λR args H k r h=>by
 unfold bNu at h;split at h
 ·unfold qG at h;split at h
  ·rename_i hc;exact⟨_,h,rfl,hc⟩
  ·cases h
 ·cases h
theorem uO{val:Nat->Nat->Int->Nat×Nat}{R:Type}{a1 a2:Nat}{m:Int}{H:AH}(h:aD P9 68 [.pointer (some ⟨6,0,none⟩),.complex .f64 a1 a2,.int .i64 m] H (.complex .f64 (val a1 a2 m).1 (val a1 a2 m).2))(k:KNN R):qG val R a1 a2 m H k=k (val a1 a2 m).1 (val a1 a2 m).2:=by unfold qG;exact if_pos h
theorem cFp:Has P9 68:=⟨Tryz.f68,_,Tryz.func68,by kernel_rfl,rfl⟩
noncomputable def bSb(kd:Int)(val:Nat->Nat->Int->Nat×Nat):Cx:=fbC la8 kd aG (rQ kd) rSt (rAp P9) jJ dV gJ reH sU jK eQ aP dG gF [(68,bNu (qG val))] []
theorem aYe(kd:Int)(val:Nat->Nat->Int->Nat×Nat):(bSb kd val).Ok:=lS jR aRk lY (.cons k62 h62 (.cons (bCd val) cFp .nil)) .nil (jX (.cons (uZ aEz) .nil))
theorem aRo:fP fcA=[]:=by kernel_rfl
def cEw(val:Nat->Nat->Int->Nat×Nat)(c1 c2:Nat)(X:El)(r r':Nat×Nat):Prop:=
 ∀(R:Type)(K:KNN R),(gJ R X.a1 X.a2 c1 c2 λd1 d2=>reH R X.s1 X.s2 λh1 h2=>xJ dV h1 h2 [(d1,d2),((val X.a1 X.a2 0).1,(val X.a1 X.a2 0).2)] λq1 q2=>eQ R q1 q2 4611686018427387904 λq1 q2=>jJ R r.1 r.2 q1 q2 K)=K r'.1 r'.2
def cEt(val:Nat->Nat->Int->Nat×Nat)(c1 c2:Nat)(X:El)(pw:Int)(r r':Nat×Nat):Prop:=
 ∀(R:Type)(K:KNN R),(gJ R X.a1 X.a2 c1 c2 λd1 d2=>xJ dV d1 d2 [((val X.a1 X.a2 pw).1,(val X.a1 X.a2 pw).2)] λq1 q2=>eQ R (val X.a1 X.a2 (pw-1)).1 (val X.a1 X.a2 (pw-1)).2 X.p λw1 w2=>jJ R q1 q2 w1 w2 λv1 v2=>
  sU R X.s1 X.s2 λn1 n2=>xJ dV n1 n2 [(v1,v2)] λq1 q2=>gF R 1 (pw-1) λt=>aM (fbF .quo 4607182418800017408 t) λt=>eQ R q1 q2 t λq1 q2=>eQ R q1 q2 4611686018427387904 λq1 q2=>jJ R r.1 r.2 q1 q2 K)=K r'.1 r'.2
def bP9(os:List El)(val:Nat->Nat->Int->Nat×Nat)(c1 c2:Nat)(X:El)(r r':Nat×Nat):Prop:=
 (X.kind=2/\AtV os val X.a1 X.a2 0/\cEw val c1 c2 X r r')\/
 (X.kind=3/\∃pw:Int,floatToIntVal .f64 X.p .i64=some pw/\1<=pw/\pw<=100/\AtV os val X.a1 X.a2 pw/\AtV os val X.a1 X.a2 (pw-1)/\cEt val c1 c2 X pw r r')
section
variable{os ys:List El}{val:Nat->Nat->Int->Nat×Nat}{x y c1 c2 r k:Nat}{X:El}{p p':Nat×Nat}
theorem aRn{R:Type}(hk:ys[k]?=some X){kd:Int}(hd:X.kind=kd)(E:Option R)(Y:Nat->Nat->Nat->Nat->Nat->Option R):fcN (rQ kd) (cellsOf ys) ys.length k E Y=Y X.a1 X.a2 X.s1 X.s2 X.p:=by have hkn:=(List.getElem?_eq_some_iff.1 hk).1;unfold fcN;rw[D7 (show(k:Int)<ys.length by omega),T7,jN,T7,bAy hk hd]
theorem aYf{R:Type}{n:Nat}{kd:Int}(E:Option R)(Y:Nat->Nat->Nat->Nat->Nat->Option R):fcN (rQ kd) (cellsOf ys) n n E Y=E:=by unfold fcN;rw[E7 (by omega),F7]
def fcM(os ys:List El)(c1 c2 r:Nat):dF:=fcO (lv 7 os.length) (cellsOf ys) ys.length (obE 7 os) c1 c2 r
theorem bLq:fbB (sl3 8 ys.length) (lv 7 os.length)∈fcM os ys c1 c2 r:=by unfold fcM fcO;simp
theorem bLo:(5,qQ.map .u8 aUw)∈fcM os ys c1 c2 r:=by unfold fcM fcO fcX;simp
theorem bLp:∀u∈obE 7 os,u∈fcM os ys c1 c2 r:=λu h=>by unfold fcM fcO;simp only[List.mem_append];exact .inl (.inr h)
theorem bSc(hn:ys.length<900000)(hk:ys[k]?=some X)(hv:bP9 os val c1 c2 X p p'):
  ∃kd bo,bE (bSb kd val) 60 noL 1 180 fcA (fcE ys.length x y p.1 p.2 k) ⟨11,fcM os ys c1 c2 r⟩ (aU fcT bo λex e O=>some (ex,e,O))=some (.normal,fcE ys.length x y p'.1 p'.2 (k+1:Nat),fcM os ys c1 c2 r):=by
 have hkn:=(List.getElem?_eq_some_iff.1 hk).1;have w1:=aDc (i:=k) (by omega);rcases hv with ⟨hd,ha,hs⟩|⟨hd,pw,hp,p1,p2,ha,ha2,hs⟩
 ·have at0:aD P9 68 [.pointer (some ⟨6,0,none⟩),.complex .f64 X.a1 X.a2,.int .i64 0] ⟨12,elO 2 X.a1 X.a2 X.s1 X.s2 X.p::fcM os ys c1 c2 r⟩ (.complex .f64 (val X.a1 X.a2 0).1 (val X.a1 X.a2 0).2):=
   aN5 ha (List.mem_cons_of_mem _ bLq) (List.mem_cons_of_mem _ bLo) λu hu=>List.mem_cons_of_mem _ (bLp u hu)
  cases os with
  |nil=>
   refine⟨2,[6,8,5,3,2],?_⟩;refine(bSe aG (rQ 2) rSt (rAp P9) jJ dV gJ reH sU jK eQ aP dG gF (qG val) (cellsOf ys) ys.length k x y p.1 p.2 c1 c2 r bL _ _).trans ?_;rw[aRn hk hd];unfold fcS;refine Eq.trans ?_ (Eq.trans (hs _ λa b=>aG _ (K9.i64.wrap (k+1)) λi=>some (Ex.normal,fcE ys.length x y a b i,fcM [] ys c1 c2 r)) ?_);· simp only[show ∀(kk:Nat->Nat->Option (Ex×Env×dF)),qG val _ X.a1 X.a2 0 ⟨12,elO 2 X.a1 X.a2 X.s1 X.s2 X.p::fcO bL (cellsOf ys) ys.length [] c1 c2 r⟩ kk=kk _ _ from λkk=>uO at0 kk];rfl
   ·rw[aI,w1]
  |cons o os=>
   refine⟨2,[6,8,7,5,3,2],?_⟩;refine(bSd aG (rQ 2) rSt (rAp P9) jJ dV gJ reH sU jK eQ aP dG gF (qG val) (cellsOf (o::os)) (cellsOf ys) ys.length k x y p.1 p.2 c1 c2 r (lv 7 (o::os).length) _ _).trans ?_;rw[aRn hk hd];unfold fcS;refine Eq.trans ?_ (Eq.trans (hs _ λa b=>aG _ (K9.i64.wrap (k+1)) λi=>some (Ex.normal,fcE ys.length x y a b i,fcM (o::os) ys c1 c2 r)) ?_);· simp only[show ∀(kk:Nat->Nat->Option (Ex×Env×dF)),qG val _ X.a1 X.a2 0 ⟨12,elO 2 X.a1 X.a2 X.s1 X.s2 X.p::fcO (lv 7 (o::os).length) (cellsOf ys) ys.length [(7,.cells (cellsOf (o::os)) 4)] c1 c2 r⟩ kk=kk _ _ from λkk=>uO at0 kk];rfl
   ·rw[aI,w1]
 ·have atA:aD P9 68 [.pointer (some ⟨6,0,none⟩),.complex .f64 X.a1 X.a2,.int .i64 pw] ⟨12,elO 3 X.a1 X.a2 X.s1 X.s2 X.p::fcM os ys c1 c2 r⟩ (.complex .f64 (val X.a1 X.a2 pw).1 (val X.a1 X.a2 pw).2):=
   aN5 ha (List.mem_cons_of_mem _ bLq) (List.mem_cons_of_mem _ bLo) λu hu=>List.mem_cons_of_mem _ (bLp u hu)
  have atB:∀v1 v2:Nat,aD P9 68 [.pointer (some ⟨6,0,none⟩),.complex .f64 X.a1 X.a2,.int .i64 (pw-1)] ⟨13,(12,.cells [.complex .f64 v1 v2] 0)::elO 3 X.a1 X.a2 X.s1 X.s2 X.p::fcM os ys c1 c2 r⟩ (.complex .f64 (val X.a1 X.a2 (pw-1)).1 (val X.a1 X.a2 (pw-1)).2):=λv1 v2=>
   aN5 ha2 (List.mem_cons_of_mem _ (List.mem_cons_of_mem _ bLq)) (List.mem_cons_of_mem _ (List.mem_cons_of_mem _ bLo)) λu hu=>List.mem_cons_of_mem _ (List.mem_cons_of_mem _ (bLp u hu))
  have wm:K9.i64.wrap (pw-1)=pw-1:=qH (by omega) (by omega);cases os with
  |nil=>
   refine⟨3,[6,8,5,3,2],?_⟩;refine(bY6 aG (rQ 3) rSt (rAp P9) jJ dV gJ reH sU jK eQ aP dG gF (qG val) (cellsOf ys) ys.length k x y p.1 p.2 c1 c2 r bL _ _).trans ?_;rw[aRn hk hd];unfold fcD;refine Eq.trans ?_ (Eq.trans (hs _ λa b=>aG _ (K9.i64.wrap (k+1)) λi=>some (Ex.normal,fcE ys.length x y a b i,fcM [] ys c1 c2 r)) ?_)
   ·simp only[hp,D9,aI _ pw,wm,aI _ (pw-1),show ∀(kk:Nat->Nat->Option (Ex×Env×dF)),qG val _ X.a1 X.a2 pw ⟨12,elO 3 X.a1 X.a2 X.s1 X.s2 X.p::fcO bL (cellsOf ys) ys.length [] c1 c2 r⟩ kk=kk _ _ from λkk=>uO atA kk,
     show ∀(v1 v2:Nat)(kk:Nat->Nat->Option (Ex×Env×dF)),qG val _ X.a1 X.a2 (pw-1) ⟨13,(12,.cells [.complex .f64 v1 v2] 0)::elO 3 X.a1 X.a2 X.s1 X.s2 X.p::fcO bL (cellsOf ys) ys.length [] c1 c2 r⟩ kk=kk _ _ from λv1 v2 kk=>uO (atB v1 v2) kk]
    rfl
   ·rw[aI,w1]
  |cons o os=>
   refine⟨3,[6,8,7,5,3,2],?_⟩;refine(bY5 aG (rQ 3) rSt (rAp P9) jJ dV gJ reH sU jK eQ aP dG gF (qG val) (cellsOf (o::os)) (cellsOf ys) ys.length k x y p.1 p.2 c1 c2 r (lv 7 (o::os).length) _ _).trans ?_;rw[aRn hk hd];unfold fcD;refine Eq.trans ?_ (Eq.trans (hs _ λa b=>aG _ (K9.i64.wrap (k+1)) λi=>some (Ex.normal,fcE ys.length x y a b i,fcM (o::os) ys c1 c2 r)) ?_)
   ·simp only[hp,D9,aI _ pw,wm,aI _ (pw-1),show ∀(kk:Nat->Nat->Option (Ex×Env×dF)),qG val _ X.a1 X.a2 pw ⟨12,elO 3 X.a1 X.a2 X.s1 X.s2 X.p::fcO (lv 7 (o::os).length) (cellsOf ys) ys.length [(7,.cells (cellsOf (o::os)) 4)] c1 c2 r⟩ kk=kk _ _ from λkk=>uO atA kk,
     show ∀(v1 v2:Nat)(kk:Nat->Nat->Option (Ex×Env×dF)),qG val _ X.a1 X.a2 (pw-1) ⟨13,(12,.cells [.complex .f64 v1 v2] 0)::elO 3 X.a1 X.a2 X.s1 X.s2 X.p::fcO (lv 7 (o::os).length) (cellsOf ys) ys.length [(7,.cells (cellsOf (o::os)) 4)] c1 c2 r⟩ kk=kk _ _ from λv1 v2 kk=>uO (atB v1 v2) kk]
    rfl
   ·rw[aI,w1]
end
section
variable{os ys:List El}{val:Nat->Nat->Int->Nat×Nat}{x y c1 c2 r k sz:Nat}{cs:List V9}{X:El}{ρ:Nat->Nat×Nat}
theorem aRm:geB 1 (fcM os ys c1 c2 r)=true:=by cases os<;>rfl
theorem aL1:aK8 (fcM os ys c1 c2 r) ([]++[(0,qQ.cells cs sz)])=true:=by cases os<;>rfl
theorem bAz:fD (gK 11 []) (fcM os ys c1 c2 r++[])=some (fcM os ys c1 c2 r):=by rw[List.append_nil];unfold fcM fcO;refine kM (kM ?_ (aBt (p:=gK 11 []) (b:=7) rfl _)) rfl;show fD _ [(6,.cells [sl3 8 ys.length,lv 7 os.length,.map (some 5)] 0),(8,.cells (cellsOf ys) 4)]=_;simp only[fD,pN,qJ,yB (p:=gK 11 []) (b:=7) rfl,bQ (cL ys).2.1,D9];rfl
theorem bLs(hn:ys.length<900000)(hk:ys[k]?=some X){p p':Nat×Nat}(hv:bP9 os val c1 c2 X p p'):
  cI P9 1 180 ⟨11,fcM os ys c1 c2 r++[(0,.cells cs sz)]⟩ (fcE ys.length x y p.1 p.2 k) ⟨11,fcM os ys c1 c2 r++[(0,.cells cs sz)]⟩ .normal (fcE ys.length x y p'.1 p'.2 (k+1:Nat)) ⟨11,fcM os ys c1 c2 r++[(0,.cells cs sz)]⟩ (λQ a w=>fcA.wp P9 Q a w):=by
 obtain⟨kd,bo,e⟩:=bSc (x:=x) (y:=y) (r:=r) hn hk hv;exact oE (C:=bSb kd val) (H0:=⟨11,fcM os ys c1 c2 r++[(0,.cells cs sz)]⟩) (F:=[]) (E:=[(0,.cells cs sz)]) (bs:=[]) (e2:=fcE ys.length x y p'.1 p'.2 (k+1:Nat)) (A:=fcM os ys c1 c2 r) (B:=[(0,.cells cs sz)]) (D:=fcM os ys c1 c2 r)
  (aYe _ _) aO (by rw[aRo];intro a ha;simp at ha) e aL1 rfl bAz rfl rfl rfl aRm aRm
theorem bLr{p:Nat×Nat}:
  cI P9 1 180 ⟨11,fcM os ys c1 c2 r++[(0,.cells cs sz)]⟩ (fcE ys.length x y p.1 p.2 ys.length) ⟨11,fcM os ys c1 c2 r++[(0,.cells cs sz)]⟩ (.exit 2) (fcE ys.length x y p.1 p.2 ys.length) ⟨11,fcM os ys c1 c2 r++[(0,.cells cs sz)]⟩ (λQ a w=>fcA.wp P9 Q a w):=by
 have key:∃kd bo,bE (bSb kd λ_ _ _=>(0,0)) 60 noL 1 180 fcA (fcE ys.length x y p.1 p.2 ys.length) ⟨11,fcM os ys c1 c2 r⟩ (aU fcT bo λex e O=>some (ex,e,O))=some (.exit 2,fcE ys.length x y p.1 p.2 ys.length,fcM os ys c1 c2 r):=by
  cases os with
  |nil=>refine⟨2,[6,8,5,3,2],?_⟩;refine(bSe aG (rQ 2) rSt (rAp P9) jJ dV gJ reH sU jK eQ aP dG gF (qG _) (cellsOf ys) ys.length ys.length x y p.1 p.2 c1 c2 r bL _ _).trans ?_;rw[aYf];rfl
  |cons o os=>refine⟨2,[6,8,7,5,3,2],?_⟩;refine(bSd aG (rQ 2) rSt (rAp P9) jJ dV gJ reH sU jK eQ aP dG gF (qG _) (cellsOf (o::os)) (cellsOf ys) ys.length ys.length x y p.1 p.2 c1 c2 r (lv 7 (o::os).length) _ _).trans ?_;rw[aYf];rfl
 obtain⟨kd,bo,e⟩:=key;exact oE (C:=bSb kd λ_ _ _=>(0,0)) (H0:=⟨11,fcM os ys c1 c2 r++[(0,.cells cs sz)]⟩) (F:=[]) (E:=[(0,.cells cs sz)]) (bs:=[]) (e2:=fcE ys.length x y p.1 p.2 ys.length) (A:=fcM os ys c1 c2 r) (B:=[(0,.cells cs sz)]) (D:=fcM os ys c1 c2 r)
  (aYe _ _) aO (by rw[aRo];intro a ha;simp at ha) e aL1 rfl bAz rfl rfl rfl aRm aRm
theorem aYg(hn:ys.length<900000)(hv:∀k X,ys[k]?=some X->bP9 os val c1 c2 X (ρ k) (ρ (k+1))):
  dH P9 1 180 ⟨11,fcM os ys c1 c2 r++[(0,.cells cs sz)]⟩ fcA (fcE ys.length x y (ρ 0).1 (ρ 0).2 (0:Nat)) ⟨11,fcM os ys c1 c2 r++[(0,.cells cs sz)]⟩ (.exit 2) (fcE ys.length x y (ρ ys.length).1 (ρ ys.length).2 ys.length) ⟨11,fcM os ys c1 c2 r++[(0,.cells cs sz)]⟩:=by
 refine fQ (E:=λk:Nat=>fcE ys.length x y (ρ k).1 (ρ k).2 k) (H:=λ_=>⟨11,fcM os ys c1 c2 r++[(0,.cells cs sz)]⟩) ys.length 0 (λk _ hk=>?_) (gY (ex:=.exit 2) (by intro h;cases h) ?_);· have hk':=List.getElem?_eq_getElem (show k<ys.length by omega);exact bLs hn hk' (hv k _ hk')
 ·simp only[Nat.zero_add];exact bLr
end
theorem bFi{P:Program}{f:FuncId}{v:V9}(hv:flat v=true):aGw P f (aJz v (fJ P f v)):=λR args H k r h=>by
 unfold aJz fJ at h;split at h
 ·rename_i hc;refine⟨v,⟨H.next+1,H.objs⟩,h,λlo ρ w args' hi hlo ha=>(hc ρ w args' hi ha).mono ?_⟩
  rintro e w' ⟨rfl,hb⟩
  exact⟨ρ,v,rfl,dW.ofFlat ρ hv,(tR hi hb).bump (Nat.le_succ _)⟩
 ·cases h
theorem cC5:Has P9 11:=⟨Tryz.f11,_,Tryz.func11,by kernel_rfl,rfl⟩
theorem cDn:Has P9 31:=⟨Tryz.f31,_,Tryz.func31,by kernel_rfl,rfl⟩
theorem aIj:Tryz.f24.body=some (bB 24):=by kernel_rfl
noncomputable def bK6(x y u1 u2 j:Nat)(is:List V9):Cx:=fbC oa0 1 aG (rQ 1) rSt (rAp P9) jJ dV gJ reH sU jK eQ aP dG gF [(11,bF (reV x y 0) (fJ P9 11 (reV x y 0))),(44,bF (.complex .f64 u1 u2) (fJ P9 44 (.complex .f64 u1 u2)))] [(31,jA 1 (λb=>inV (sl3 b j)) (jL P9 31 1 (λb=>inV (sl3 b j)) is))]
noncomputable def bQg(x y u1 u2:Nat):Cx:=fbC oa0 1 aG (rQ 1) rSt (rAp P9) jJ dV gJ reH sU jK eQ aP dG gF [(11,bF (reV x y 0) (fJ P9 11 (reV x y 0))),(44,bF (.complex .f64 u1 u2) (fJ P9 44 (.complex .f64 u1 u2)))] [(31,aJz (inV bL) (fJ P9 31 (inV bL)))]
theorem aX0(x y u1 u2 j:Nat)(is:List V9):(bK6 x y u1 u2 j is).Ok:=lS jR aRk lY (.cons k62 h62 (.cons (gL rfl) cC5 (.cons (gL rfl) aWd .nil))) (.cons aEl cDn .nil) (jX (.cons (uZ aEz) .nil))
theorem aX1(x y u1 u2:Nat):(bQg x y u1 u2).Ok:=lS jR aRk lY (.cons k62 h62 (.cons (gL rfl) cC5 (.cons (gL rfl) aWd .nil))) (.cons (bFi rfl) cDn .nil) (jX (.cons (uZ aEz) .nil))
theorem Next.fewer{lo nx:Nat}{H0:AH}{O U:dF}{ρ0 ρ:Map}{w0 w:World}(h:Next lo ρ0 H0 w0 ρ ⟨nx,O⟩ w)(hU:∀x,x∈U->x∈O)(ho:∀k o,k<lo->(k,o)∈O->(k,o)∈U):Next lo ρ0 H0 w0 ρ ⟨nx,U⟩ w:=
 {inv:=⟨h.inv.dom,λk o hm=>h.inv.wf k o (hU _ hm),λk o o' h1 h2=>h.inv.one k o o' (hU _ h1) (hU _ h2),h.inv.rel.sub hU⟩
  same:=h.same,nx:=h.nx,size:=h.size,os:=h.os,tape:=h.tape,output:=h.output,keep:=h.keep
  own:=λk o s hk hm he=>h.own k o s hk (hU _ hm) he
  old:=λk o hk=>⟨λhm=>(h.old k o hk).1 (hU _ hm),λhm=>ho k o hk ((h.old k o hk).2 hm)⟩ }
theorem iE.less{P:Program}{lo sz nx:Nat}{H:AH}{e e':Env}{ex:Ex}{O U:dF}{W:(Exit->Act->World->Prop)->Act->World->Prop}(h:iE P lo sz e H ex e' ⟨nx,O⟩ W)(hU:∀x,x∈U->x∈O)(ho:∀k o,k<lo->(k,o)∈O->(k,o)∈U):iE P lo sz e H ex e' ⟨nx,U⟩ W:=
 λ{ρ w a} hi hlo he hs Q hQ=>h hi hlo he hs Q λρ' a' w' m1 m2 m3 m4=>hQ ρ' a' w' (m1.fewer hU ho) m2 m3 m4
section
variable{ins:Option (List V9)}{xs:List El}{w:V9}{c x y sz c1 c2 r u1 u2 a b m:Nat}{e:Int}{inn:Nat->Bool}{sh:El->Nat×Nat}{val:Nat->Nat->Int->Nat×Nat}{ρ g:Nat->Nat×Nat}
abbrev oM(n c c1 c2 r:Nat):List V9:=[cW 0 n c,ciV c1 c2 r]
structure Fby(xs:List El)(c1 c2 r x y:Nat)(ins:Option (List V9))(w:V9)(inn:Nat->Bool)(sh:El->Nat×Nat)(val:Nat->Nat->Int->Nat×Nat)(ρ:Nat->Nat×Nat)(u1 u2:Nat)(c sz:Nat):Prop where
 one:Fb1 ins xs w inn sh
 sq:aD P9 11 (oM xs.length c c1 c2 r) ⟨1,[(0,.cells (cellsOf xs) sz)]⟩ (reV x y 0)
 two:∀k X,(oI xs inn sh xs.length).is[k]?=some X->bP9 (oI xs inn sh xs.length).os val c1 c2 X (ρ k) (ρ (k+1))
 sum:∃g,aGf (oI xs inn sh xs.length).hs g/\g (oI xs inn sh xs.length).hs.length=(u1,u2)
 mul:∀(R:Type)(K:KNN R),xJ dV u1 u2 [(u1,u2)] K=K (ρ 0).1 (ρ 0).2
theorem aYd{H:AH}{hs:List (Nat×Nat)}(hl:hs.length<900000)(hg:∃g,aGf hs g/\g hs.length=(u1,u2))(hm:∀u∈obC 9 hs,u∈H.objs):aD P9 44 [lv 9 hs.length] H (.complex .f64 u1 u2):=by
 obtain⟨g,h1,h2⟩:=hg;cases hs with
 |nil=>
  have:(u1,u2)=(0,0):=by rw[<-h2];exact h1.zero
  cases this;exact xP
 |cons z zs=>have:=pS (cs:=bA (z::zs)) (sz:=1) (o:=0) (c:=(z::zs).length) (zs:=z::zs) (f:=g) (mG _) hl h1;rw[h2]at this;exact aD.one (b:=9) this (oO _) (hm _ (by simp[obC])) rfl
theorem aX2:(0,qQ.cells (cellsOf xs) sz)∈fbX xs.length c c1 c2 r (cellsOf xs) sz:=by unfold fbX;simp
theorem bKh{is:List V9}{j:Nat}(hn:xs.length<900000)(T:Fby xs c1 c2 r x y (some is) (sl3 4 j) inn sh val ρ u1 u2 c sz)(hne:(oI xs inn sh xs.length).is≠[])(hI:oK P9 31 (oM xs.length c c1 c2 r) ⟨4,fbX xs.length c c1 c2 r (cellsOf xs) sz⟩ (inV (sl3 4 j)) (AH.push ⟨4,fbX xs.length c c1 c2 r (cellsOf xs) sz⟩ (.cells is 1)))(hl:∀(R:Type)(K:Nat->Nat->Nat->Int->Option R),fbZ jK eQ aP dG x y (ρ (oI xs inn sh xs.length).is.length).1 (ρ (oI xs inn sh xs.length).is.length).2 K=K a b m e):
  aD P9 24 (oM xs.length c c1 c2 r) ⟨1,[(0,.cells (cellsOf xs) sz)]⟩ (rO a b m e):=by
 have lens:=aIi xs inn sh xs.length;have hr:=@gG _ _ _ _ _ _ _ _ _ (aL0 (c:=c) (x:=x) (y:=y) (sz:=sz) (c1:=c1) (c2:=c2) (r:=r) T.one hn);have Ttwo:=T.two;have Tsum:=T.sum;generalize hS:oI xs inn sh xs.length=S at *
 obtain⟨os,ys,hs⟩:=S;simp only at lens hr Ttwo Tsum hne hl;have hB2:=@gG _ _ _ _ _ _ _ _ _ (aYg (os:=os) (ys:=ys) (val:=val) (x:=x) (y:=y) (c1:=c1) (c2:=c2) (r:=r) (sz:=sz) (cs:=cellsOf xs) (ρ:=ρ) (by omega) Ttwo);have hq':aD P9 11 (oM xs.length c c1 c2 r) ⟨4,fbX xs.length c c1 c2 r (cellsOf xs) sz⟩ (reV x y 0):=aD.one (b:=0) T.sq (cL _).2.1 aX2 rfl;have hM:∃M:dF,iE P9 1 180 (fbE (sl3 4 j) bL xs.length c x y (0:Nat)) ⟨7,fbK (some is) mtS c1 c2 r (cellsOf xs) sz⟩ (.exit 0) (fbE (sl3 4 j) (lv 9 hs.length) xs.length c x y xs.length) ⟨10,obC 9 hs++(fcM os ys c1 c2 r++[(4,.cells is 1),(0,.cells (cellsOf xs) sz)])⟩ (λQ act w=>Code.wp P9 (.loop fbA) Q act w):=⟨[],by
  have l8:lv 8 ys.length=sl3 8 ys.length:=by
   cases ys with
   |nil=>exact absurd rfl hne
   |cons a l=>rfl
  have e8:obE 8 ys=[(8,.cells (cellsOf ys) 4)]:=by
   cases ys with
   |nil=>exact absurd rfl hne
   |cons a l=>rfl
  refine @iE.less _ _ _ _ _ _ _ _ _ _ _ hr (λu=>?_) λk o hk=>?_
  ·unfold fbK fbD fbY fcM fcO fcX xC;simp only[l8,e8,List.mem_append,List.mem_cons,List.not_mem_nil,or_false];grind
  ·unfold fbK fbD fbY fcM fcO fcX xC;simp only[l8,e8,List.mem_append,List.mem_cons,List.not_mem_nil,or_false];grind⟩
 obtain⟨_,hB1⟩:=hM;have hsum:aD P9 44 [lv 9 hs.length] ⟨10,obC 9 hs++(fcM os ys c1 c2 r++[(4,.cells is 1),(0,.cells (cellsOf xs) sz)])⟩ (.complex .f64 u1 u2):=aYd (by omega) Tsum λu hu=>List.mem_append_left _ hu
 have fin:∀{L:qR},(∀a∈fP (bB 24),LOk P9 L a)->bE (bK6 x y u1 u2 j is) 60 L 1 180 (bB 24) (gX 0 (oM xs.length c c1 c2 r)) ⟨1,[(0,.cells (cellsOf xs) sz)]⟩ (aU [4,5] [3] λex e O=>some (ex,e,O))=some (.ret,[(4,.pointer (some ⟨3,0,none⟩)),(5,.int .i64 e)],[(3,.cells [.complex .f64 a b,.float .f64 m] 0)])->aD P9 24 (oM xs.length c c1 c2 r) ⟨1,[(0,.cells (cellsOf xs) sz)]⟩ (rO a b m e):=λ{L} hL ht=>by
  have hok:=aX0 x y u1 u2 j is;refine fK (C:=bK6 x y u1 u2 j is) (n:=60) (f:=24) (fn:=Tryz.f24) (c:=bB 24) (L:=L) (ts:=[4,5]) (bo:=[3]) (ex:=.ret) (e':=[(4,.pointer (some ⟨3,0,none⟩)),(5,.int .i64 e)]) (O:=[(3,.cells [.complex .f64 a b,.float .f64 m] 0)]) (H:=⟨1,[(0,.cells (cellsOf xs) sz)]⟩) (args:=oM xs.length c c1 c2 r) (vs:=[.agg ⟨[.complex .f64 a b,.float .f64 m]⟩,.int .i64 e]) ?_ ?_ ?_ ?_ ?_ ?_ ?_ ?_ ?_ ?_;· exact hok
  ·exact aO
  ·exact Tryz.func24
  ·exact aIj
  ·exact hL
  ·exact kK rfl
  ·exact ht
  ·exact .inr rfl
  ·rfl
  ·rfl
 rcases os with _|⟨o,os⟩<;>rcases hs with _|⟨z,zs⟩
 ·skip;refine fin (L:=fbN (told P9 (.exit 0) (fbE (sl3 4 j) (lv 9 ([]:List (Nat×Nat)).length) xs.length c x y xs.length) ⟨10,obC 9 ([]:List (Nat×Nat))++(fcM ([]:List El) ys c1 c2 r++[(4,.cells is 1),(0,.cells (cellsOf xs) sz)])⟩) (told P9 (.exit 2) (fcE ys.length x y (ρ ys.length).1 (ρ ys.length).2 ys.length) ⟨11,fcM ([]:List El) ys c1 c2 r++[(0,.cells (cellsOf xs) sz)]⟩)) (λa _=>aCh (dJ (gN _ _ _ _ a)) (dJ (gN _ _ _ _ a))) ?_;refine(aYc aG (rQ 1) rSt (rAp P9) jJ dV gJ reH sU jK eQ aP dG gF _ _ (jL P9 31 1 (λb=>inV (sl3 b j)) is) (cellsOf xs) sz xs.length c j x y c1 c2 r u1 u2 _ _ _ _).trans ?_;refine(cO hq').trans ?_;refine(sE hI).trans ?_;refine(gT @hB1 _ _).trans ?_;rw[cX];refine(bDz aG (rQ 1) rSt (rAp P9) jJ dV gJ reH sU jK eQ aP dG gF _ _ (jL P9 31 1 (λb=>inV (sl3 b j)) is) (cellsOf xs) (cellsOf ys) is sz xs.length c j ys.length x y c1 c2 r u1 u2 (sl3 4 j) (lv 9 ([]:List (Nat×Nat)).length) (lv 7 ([]:List El).length) _ _ _ _).trans ?_;refine(cO hsum).trans ?_;rw[T.mul];refine(gT @hB2 _ _).trans ?_;rw[cX];refine(aX4 aG (rQ 1) rSt (rAp P9) jJ dV gJ reH sU jK eQ aP dG gF _ _ (jL P9 31 1 (λb=>inV (sl3 b j)) is) (cellsOf xs) (cellsOf ys) sz j ys.length x y (ρ ys.length).1 (ρ ys.length).2 c1 c2 r u1 u2 (lv 7 ([]:List El).length) _ _ _ _).trans ?_;rw[hl]
 ·skip;refine fin (L:=fbN (told P9 (.exit 0) (fbE (sl3 4 j) (lv 9 (z::zs).length) xs.length c x y xs.length) ⟨10,obC 9 (z::zs)++(fcM ([]:List El) ys c1 c2 r++[(4,.cells is 1),(0,.cells (cellsOf xs) sz)])⟩) (told P9 (.exit 2) (fcE ys.length x y (ρ ys.length).1 (ρ ys.length).2 ys.length) ⟨11,fcM ([]:List El) ys c1 c2 r++[(0,.cells (cellsOf xs) sz)]⟩)) (λa _=>aCh (dJ (gN _ _ _ _ a)) (dJ (gN _ _ _ _ a))) ?_;refine(aYc aG (rQ 1) rSt (rAp P9) jJ dV gJ reH sU jK eQ aP dG gF _ _ (jL P9 31 1 (λb=>inV (sl3 b j)) is) (cellsOf xs) sz xs.length c j x y c1 c2 r u1 u2 _ _ _ _).trans ?_;refine(cO hq').trans ?_;refine(sE hI).trans ?_;refine(gT @hB1 _ _).trans ?_;rw[cX];refine(bD0 aG (rQ 1) rSt (rAp P9) jJ dV gJ reH sU jK eQ aP dG gF _ _ (jL P9 31 1 (λb=>inV (sl3 b j)) is) (cellsOf xs) (cellsOf ys) (bA (z::zs)) is sz xs.length c j ys.length x y c1 c2 r u1 u2 (sl3 4 j) (lv 9 (z::zs).length) (lv 7 ([]:List El).length) _ _ _ _).trans ?_;refine(cO hsum).trans ?_;rw[T.mul];refine(gT @hB2 _ _).trans ?_;rw[cX];refine(aX4 aG (rQ 1) rSt (rAp P9) jJ dV gJ reH sU jK eQ aP dG gF _ _ (jL P9 31 1 (λb=>inV (sl3 b j)) is) (cellsOf xs) (cellsOf ys) sz j ys.length x y (ρ ys.length).1 (ρ ys.length).2 c1 c2 r u1 u2 (lv 7 ([]:List El).length) _ _ _ _).trans ?_;rw[hl]
 ·skip;refine fin (L:=fbL (told P9 (.exit 0) (fbE (sl3 4 j) (lv 9 ([]:List (Nat×Nat)).length) xs.length c x y xs.length) ⟨10,obC 9 ([]:List (Nat×Nat))++(fcM (o::os) ys c1 c2 r++[(4,.cells is 1),(0,.cells (cellsOf xs) sz)])⟩) (told P9 (.exit 2) (fcE ys.length x y (ρ ys.length).1 (ρ ys.length).2 ys.length) ⟨11,fcM (o::os) ys c1 c2 r++[(0,.cells (cellsOf xs) sz)]⟩)) (λa _=>aCh (dJ (gN _ _ _ _ a)) (dJ (gN _ _ _ _ a))) ?_;refine(aYb aG (rQ 1) rSt (rAp P9) jJ dV gJ reH sU jK eQ aP dG gF _ _ (jL P9 31 1 (λb=>inV (sl3 b j)) is) (cellsOf xs) sz xs.length c j x y c1 c2 r u1 u2 _ _ _ _).trans ?_;refine(cO hq').trans ?_;refine(sE hI).trans ?_;refine(gT @hB1 _ _).trans ?_;rw[cX];refine(bDx aG (rQ 1) rSt (rAp P9) jJ dV gJ reH sU jK eQ aP dG gF _ _ (jL P9 31 1 (λb=>inV (sl3 b j)) is) (cellsOf xs) (cellsOf (o::os)) (cellsOf ys) is sz xs.length c j ys.length x y c1 c2 r u1 u2 (sl3 4 j) (lv 9 ([]:List (Nat×Nat)).length) (lv 7 (o::os).length) _ _ _ _).trans ?_;refine(cO hsum).trans ?_;rw[T.mul];refine(gT @hB2 _ _).trans ?_;rw[cX];refine(aX3 aG (rQ 1) rSt (rAp P9) jJ dV gJ reH sU jK eQ aP dG gF _ _ (jL P9 31 1 (λb=>inV (sl3 b j)) is) (cellsOf xs) (cellsOf (o::os)) (cellsOf ys) sz j ys.length x y (ρ ys.length).1 (ρ ys.length).2 c1 c2 r u1 u2 (lv 7 (o::os).length) _ _ _ _).trans ?_;rw[hl]
 ·skip;refine fin (L:=fbL (told P9 (.exit 0) (fbE (sl3 4 j) (lv 9 (z::zs).length) xs.length c x y xs.length) ⟨10,obC 9 (z::zs)++(fcM (o::os) ys c1 c2 r++[(4,.cells is 1),(0,.cells (cellsOf xs) sz)])⟩) (told P9 (.exit 2) (fcE ys.length x y (ρ ys.length).1 (ρ ys.length).2 ys.length) ⟨11,fcM (o::os) ys c1 c2 r++[(0,.cells (cellsOf xs) sz)]⟩)) (λa _=>aCh (dJ (gN _ _ _ _ a)) (dJ (gN _ _ _ _ a))) ?_;refine(aYb aG (rQ 1) rSt (rAp P9) jJ dV gJ reH sU jK eQ aP dG gF _ _ (jL P9 31 1 (λb=>inV (sl3 b j)) is) (cellsOf xs) sz xs.length c j x y c1 c2 r u1 u2 _ _ _ _).trans ?_;refine(cO hq').trans ?_;refine(sE hI).trans ?_;refine(gT @hB1 _ _).trans ?_;rw[cX];refine(bDy aG (rQ 1) rSt (rAp P9) jJ dV gJ reH sU jK eQ aP dG gF _ _ (jL P9 31 1 (λb=>inV (sl3 b j)) is) (cellsOf xs) (cellsOf (o::os)) (cellsOf ys) (bA (z::zs)) is sz xs.length c j ys.length x y c1 c2 r u1 u2 (sl3 4 j) (lv 9 (z::zs).length) (lv 7 (o::os).length) _ _ _ _).trans ?_;refine(cO hsum).trans ?_;rw[T.mul];refine(gT @hB2 _ _).trans ?_;rw[cX];refine(aX3 aG (rQ 1) rSt (rAp P9) jJ dV gJ reH sU jK eQ aP dG gF _ _ (jL P9 31 1 (λb=>inV (sl3 b j)) is) (cellsOf xs) (cellsOf (o::os)) (cellsOf ys) sz j ys.length x y (ρ ys.length).1 (ρ ys.length).2 c1 c2 r u1 u2 (lv 7 (o::os).length) _ _ _ _).trans ?_;rw[hl]
theorem aG3(hn:xs.length<900000)(T:Fby xs c1 c2 r x y ins w inn sh val ρ u1 u2 c sz)(hne:(oI xs inn sh xs.length).is=[]):
  ∃M:dF,iE P9 1 180 (fbE w bL xs.length c x y (0:Nat)) ⟨7,fbK ins mtS c1 c2 r (cellsOf xs) sz⟩ (.exit 0) (fbE w bL xs.length c x y xs.length) ⟨10,[fbB bL (lv 7 (oI xs inn sh xs.length).os.length)]++fcX c1 c2 r++[(0,.cells (cellsOf xs) sz)]⟩ (λQ act w=>Code.wp P9 (.loop fbA) Q act w):=by
 have hr:=@gG _ _ _ _ _ _ _ _ _ (aL0 (c:=c) (x:=x) (y:=y) (sz:=sz) (c1:=c1) (c2:=c2) (r:=r) T.one hn);have hh:=aIh xs inn sh xs.length;generalize hS:oI xs inn sh xs.length=S at *
 obtain⟨os,ys,hs⟩:=S;simp only at hr hh hne;subst hne;have h0:hs=[]:=Classical.byContradiction λh=>hh h rfl
 subst h0;refine⟨[],@iE.less _ _ _ _ _ _ _ _ _ _ _ hr (λu=>?_) λk o hk=>?_⟩;· unfold fbK fbD fbY fcX;simp only[List.mem_append,List.mem_cons,List.not_mem_nil,or_false];show _->(((((u=fbB bL (lv 7 os.length))\/_)\/_)\/_)\/_)\/_;grind
 ·unfold fbK fbD fbY fcX;simp only[List.mem_append,List.mem_cons,List.not_mem_nil,or_false,Prod.mk.injEq];intro h;have:k=0:=by omega
  subst this;right;rcases h with h|h
  ·exfalso;rcases h with (((h|h)|h)|h)|h
   ·cases h
   ·cases os with
    |nil=>simp[obE]at h
    |cons q l=>simp[obE]at h
   ·simp[obE]at h
   ·simp[obC]at h
   ·cases ins with
    |none=>simp[xC]at h
    |some is=>simp[xC]at h
  ·exact h
theorem bC9{is:List V9}{j:Nat}(hn:xs.length<900000)(T:Fby xs c1 c2 r x y (some is) (sl3 4 j) inn sh val ρ u1 u2 c sz)(hne:(oI xs inn sh xs.length).is=[])(hI:oK P9 31 (oM xs.length c c1 c2 r) ⟨4,fbX xs.length c c1 c2 r (cellsOf xs) sz⟩ (inV (sl3 4 j)) (AH.push ⟨4,fbX xs.length c c1 c2 r (cellsOf xs) sz⟩ (.cells is 1)))(hl:∀(R:Type)(K:Nat->Nat->Nat->Int->Option R),fbZ jK eQ aP dG x y (ρ 0).1 (ρ 0).2 K=K a b m e)(hu:(u1,u2)=(0,0)):
  aD P9 24 (oM xs.length c c1 c2 r) ⟨1,[(0,.cells (cellsOf xs) sz)]⟩ (rO a b m e):=by
 cases hu;obtain⟨_,hB1⟩:=aG3 hn T hne;have hq':aD P9 11 (oM xs.length c c1 c2 r) ⟨4,fbX xs.length c c1 c2 r (cellsOf xs) sz⟩ (reV x y 0):=aD.one (b:=0) T.sq (cL _).2.1 aX2 rfl;have hok:=aX0 x y 0 0 j is;have ht:bE (bK6 x y 0 0 j is) 60 (fbQ (told P9 (.exit 0) (fbE (sl3 4 j) bL xs.length c x y xs.length) ⟨10,[fbB bL (lv 7 (oI xs inn sh xs.length).os.length)]++fcX c1 c2 r++[(0,.cells (cellsOf xs) sz)]⟩) (sV (bK6 x y 0 0 j is) 60)) 1 180 (bB 24) (gX 0 (oM xs.length c c1 c2 r)) ⟨1,[(0,.cells (cellsOf xs) sz)]⟩ (aU [4,5] [3] λex e O=>some (ex,e,O))=some (.ret,[(4,.pointer (some ⟨3,0,none⟩)),(5,.int .i64 e)],[(3,.cells [.complex .f64 a b,.float .f64 m] 0)]):=by refine(bLm aG (rQ 1) rSt (rAp P9) jJ dV gJ reH sU jK eQ aP dG gF _ _ (jL P9 31 1 (λb=>inV (sl3 b j)) is) (cellsOf xs) sz xs.length c j x y c1 c2 r 0 0 _ _ _ _).trans ?_;refine(cO hq').trans ?_;refine(sE hI).trans ?_;refine(gT @hB1 _ _).trans ?_;rw[cX];refine(bK7 aG (rQ 1) rSt (rAp P9) jJ dV gJ reH sU jK eQ aP dG gF _ _ (jL P9 31 1 (λb=>inV (sl3 b j)) is) (cellsOf xs) sz xs.length c j x y c1 c2 r 0 0 (sl3 4 j) (lv 7 (oI xs inn sh xs.length).os.length) _ _ _).trans ?_;refine(cO xP).trans ?_;rw[T.mul,hl]
 refine fK (C:=bK6 x y 0 0 j is) (n:=60) (f:=24) (fn:=Tryz.f24) (c:=bB 24) (L:=fbQ (told P9 (.exit 0) (fbE (sl3 4 j) bL xs.length c x y xs.length) ⟨10,[fbB bL (lv 7 (oI xs inn sh xs.length).os.length)]++fcX c1 c2 r++[(0,.cells (cellsOf xs) sz)]⟩) (sV (bK6 x y 0 0 j is) 60)) (ts:=[4,5]) (bo:=[3]) (ex:=.ret) (e':=[(4,.pointer (some ⟨3,0,none⟩)),(5,.int .i64 e)]) (O:=[(3,.cells [.complex .f64 a b,.float .f64 m] 0)]) (H:=⟨1,[(0,.cells (cellsOf xs) sz)]⟩) (args:=oM xs.length c c1 c2 r) (vs:=[.agg ⟨[.complex .f64 a b,.float .f64 m]⟩,.int .i64 e]) ?_ ?_ ?_ ?_ ?_ ?_ ?_ ?_ ?_ ?_;· exact hok
 ·exact aO
 ·exact Tryz.func24
 ·exact aIj
 ·exact λa _=>aCh (lN hok aO 60 a) (dJ (gN _ _ _ _ a))
 ·exact kK rfl
 ·exact ht
 ·exact .inr rfl
 ·rfl
 ·rfl
theorem bDa(hn:xs.length<900000)(T:Fby xs c1 c2 r x y none bL inn sh val ρ u1 u2 c sz)(hne:(oI xs inn sh xs.length).is=[])(hI:aD P9 31 (oM xs.length c c1 c2 r) ⟨4,fbX xs.length c c1 c2 r (cellsOf xs) sz⟩ (inV bL))(hl:∀(R:Type)(K:Nat->Nat->Nat->Int->Option R),fbZ jK eQ aP dG x y (ρ 0).1 (ρ 0).2 K=K a b m e)(hu:(u1,u2)=(0,0)):
  aD P9 24 (oM xs.length c c1 c2 r) ⟨1,[(0,.cells (cellsOf xs) sz)]⟩ (rO a b m e):=by
 cases hu;obtain⟨_,hB1⟩:=aG3 hn T hne;have hq':aD P9 11 (oM xs.length c c1 c2 r) ⟨4,fbX xs.length c c1 c2 r (cellsOf xs) sz⟩ (reV x y 0):=aD.one (b:=0) T.sq (cL _).2.1 aX2 rfl;have hok:=aX1 x y 0 0;have ht:bE (bQg x y 0 0) 60 (fbR (told P9 (.exit 0) (fbE bL bL xs.length c x y xs.length) ⟨10,[fbB bL (lv 7 (oI xs inn sh xs.length).os.length)]++fcX c1 c2 r++[(0,.cells (cellsOf xs) sz)]⟩) (sV (bQg x y 0 0) 60)) 1 180 (bB 24) (gX 0 (oM xs.length c c1 c2 r)) ⟨1,[(0,.cells (cellsOf xs) sz)]⟩ (aU [4,5] [3] λex e O=>some (ex,e,O))=some (.ret,[(4,.pointer (some ⟨3,0,none⟩)),(5,.int .i64 e)],[(3,.cells [.complex .f64 a b,.float .f64 m] 0)]):=by refine(bLn aG (rQ 1) rSt (rAp P9) jJ dV gJ reH sU jK eQ aP dG gF _ _ _ (cellsOf xs) sz xs.length c x y c1 c2 r 0 0 _ _ _ _).trans ?_;refine(cO hq').trans ?_;refine(cO hI).trans ?_;refine(gT @hB1 _ _).trans ?_;rw[cX];refine(bK8 aG (rQ 1) rSt (rAp P9) jJ dV gJ reH sU jK eQ aP dG gF _ _ _ (cellsOf xs) sz xs.length c x y c1 c2 r 0 0 bL (lv 7 (oI xs inn sh xs.length).os.length) _ _ _).trans ?_;refine(cO xP).trans ?_;rw[T.mul,hl]
 refine fK (C:=bQg x y 0 0) (n:=60) (f:=24) (fn:=Tryz.f24) (c:=bB 24) (L:=fbR (told P9 (.exit 0) (fbE bL bL xs.length c x y xs.length) ⟨10,[fbB bL (lv 7 (oI xs inn sh xs.length).os.length)]++fcX c1 c2 r++[(0,.cells (cellsOf xs) sz)]⟩) (sV (bQg x y 0 0) 60)) (ts:=[4,5]) (bo:=[3]) (ex:=.ret) (e':=[(4,.pointer (some ⟨3,0,none⟩)),(5,.int .i64 e)]) (O:=[(3,.cells [.complex .f64 a b,.float .f64 m] 0)]) (H:=⟨1,[(0,.cells (cellsOf xs) sz)]⟩) (args:=oM xs.length c c1 c2 r) (vs:=[.agg ⟨[.complex .f64 a b,.float .f64 m]⟩,.int .i64 e]) ?_ ?_ ?_ ?_ ?_ ?_ ?_ ?_ ?_ ?_;· exact hok
 ·exact aO
 ·exact Tryz.func24
 ·exact aIj
 ·exact λa _=>aCh (lN hok aO 60 a) (dJ (gN _ _ _ _ a))
 ·exact kK rfl
 ·exact ht
 ·exact .inr rfl
 ·rfl
 ·rfl
end
def bEf(f:Nat->Int):Nat->Nat->List V9
 |_,0=>[]
 |i,m+1=>.int .i64 (f i)::bEf f (i+1) m
def bXb{R:Type}(f:Nat->Int)(v:Int)(K:KBO R):Nat->Nat->Option R
 |0,_=>K false
 |m+1,i=>bif v==f i then K true else bXb f v K m (i+1)
def aNq(m:Nat):Prop:=∀(R:Type)(f:Nat->Int)(v:Int)(c sz:Nat)(K:Ex->Env->dF->Option R),
 bE (uC aG [] [] []) 60 noL 1 9 (bB 66) (gX 0 [.slice (some ⟨0,0,none⟩) m c,.int .i64 v]) ⟨1,[(0,.cells (bEf f 0 m) sz)]⟩ (aU [4] [] K)=bXb f v (λb=>K .ret [(4,.bool b)] []) m 0
theorem bYo:aNq 1:=by intro R f v c sz K;kernel_rfl
theorem bYp:aNq 2:=by intro R f v c sz K;kernel_rfl
theorem bYq:aNq 3:=by intro R f v c sz K;kernel_rfl
theorem bYr:aNq 4:=by intro R f v c sz K;kernel_rfl
theorem bYs:aNq 5:=by intro R f v c sz K;kernel_rfl
theorem bYt:aNq 6:=by intro R f v c sz K;kernel_rfl
theorem bKt(R:Type)(v:Int)(K:Ex->Env->dF->Option R):bE (uC aG [] [] []) 60 noL 0 9 (bB 66) (gX 0 [bL,.int .i64 v]) ⟨0,[]⟩ (aU [4] [] K)=K .ret [(4,.bool false)] []:=by kernel_rfl
theorem bKs:∀m,1<=m->m<=6->aNq m
 |1,_,_=>bYo
 |2,_,_=>bYp
 |3,_,_=>bYq
 |4,_,_=>bYr
 |5,_,_=>bYs
 |6,_,_=>bYt
 |0,h,_=>absurd h (by omega)
 |n+7,_,h=>absurd h (by omega)
theorem aQ9:Tryz.f66.body=some (bB 66):=by kernel_rfl
theorem aSb(js:List Nat):∀m i,i+m=js.length->bEf (λi=>((js.getD i 0:Nat):Int)) i m=wF (js.drop i)
 |0,i,h=>by rw[List.drop_eq_nil_of_le (by omega)];rfl
 |m+1,i,h=>by
  have hi:i<js.length:=by omega
  rw[List.drop_eq_getElem_cons hi];show .int .i64 _::bEf _ (i+1) m=.int .i64 _::wF (js.drop (i+1));rw[aSb js m (i+1) (by omega)];congr 2;simp[List.getD,List.getElem?_eq_getElem hi]
theorem aXd{R:Type}(js:List Nat)(v:Nat)(K:KBO R):∀m i,i+m=js.length->bXb (λi=>((js.getD i 0:Nat):Int)) (v:Int) K m i=K (decide (v∈js.drop i))
 |0,i,h=>by rw[List.drop_eq_nil_of_le (by omega)];show K false=_;simp
 |m+1,i,h=>by
  have hi:i<js.length:=by omega
  rw[List.drop_eq_getElem_cons hi];show(bif(v:Int)==((js.getD i 0:Nat):Int) then K true else bXb _ _ K m (i+1))=_;rw[aXd js v K m (i+1) (by omega)];have e:js.getD i 0=js[i]:=by simp[List.getD,List.getElem?_eq_getElem hi]
  rw[e];by_cases hv:v=js[i];· rw[show((v:Int)==((js[i]:Nat):Int))=true by simp[hv],T7];congr 1;symm;rw[decide_eq_true_eq,<-hv];exact List.mem_cons_self
  ·rw[show((v:Int)==((js[i]:Nat):Int))=false by simp;omega,F7];congr 1;rw[decide_eq_decide];exact⟨λh=>List.mem_cons_of_mem _ h,λh=>(List.mem_cons.1 h).resolve_left hv⟩
theorem aXc:(uC aG [] [] []).Ok:=aC1 .nil .nil .nil
theorem aIo{js:List Nat}{c sz v:Nat}(h0:1<=js.length)(h6:js.length<=6):aD P9 66 [.slice (some ⟨0,0,none⟩) js.length c,.int .i64 (v:Int)] ⟨1,[(0,.cells (wF js) sz)]⟩ (.bool (decide (v∈js))):=by
 have e:=bKs js.length h0 h6 (Ex×Env×dF) (λi=>((js.getD i 0:Nat):Int)) (v:Int) c sz λex e O=>some (ex,e,O)
 rw[aSb js js.length 0 (by omega),aXd js v _ js.length 0 (by omega),List.drop_zero]at e;exact fK (C:=uC aG [] [] []) (args:=[.slice (some ⟨0,0,none⟩) js.length c,.int .i64 (v:Int)]) (H:=⟨1,[(0,.cells (wF js) sz)]⟩) aXc aO (L:=noL) Tryz.func66 aQ9 (λa _=>qU) (kK rfl) e (.inr rfl) (vs:=[.bool (decide (v∈js))]) rfl rfl
theorem aIn{v:Nat}(H:AH):aD P9 66 [bL,.int .i64 (v:Int)] H (.bool false):=
 aD.any (fK (C:=uC aG [] [] []) (args:=[bL,.int .i64 (v:Int)]) (H:=⟨0,[]⟩) aXc aO (L:=noL) Tryz.func66 aQ9 (λa _=>qU) (kK rfl) (bKt (Ex×Env×dF) (v:Int) λex e O=>some (ex,e,O)) (.inr rfl) (vs:=[.bool false]) rfl rfl) rfl H
noncomputable def inC(gl:List (Nat×vP))(ml:List (Nat×aDo)):Cx:=cxM aG P9 (λ_ _=>none) [] [] gl ml (aPh la0 [] rSt (rAp P9))
section
variable(R:Type)(gm:MT)(g:HT)(cs:List V9)(sz n c j c1 c2 r:Nat)(K:Ex->Env->dF->Option R)
theorem bEk:bE (inC [] [(82,jA 1 (λb=>inV (sl3 b j)) gm)]) 60 noL 1 11 (bB 31) (gX 0 [cW 0 n c,ciV c1 c2 r]) ⟨1,[(0,.cells cs sz)]⟩ (aU [4,5] [3] K) =
  gm R [cW 0 n c,ciV c1 c2 r,.int .i64 (-1)] ⟨3,abD n c c1 c2 r++[(0,.cells cs sz)]⟩ λis=>K .ret [(4,sl3 3 j),(5,.int .i64 0)] [(3,.cells is 1)]:=by kernel_rfl
theorem bEj:bE (inC [(82,bF (inV bL) g)] []) 60 noL 1 11 (bB 31) (gX 0 [cW 0 n c,ciV c1 c2 r]) ⟨1,[(0,.cells cs sz)]⟩ (aU [4,5] [3] K) =
  g R [cW 0 n c,ciV c1 c2 r,.int .i64 (-1)] ⟨3,abD n c c1 c2 r++[(0,.cells cs sz)]⟩ (K .ret [(4,bL),(5,.int .i64 0)] []):=by kernel_rfl
end
theorem aY2:Tryz.f31.body=some (bB 31):=by kernel_rfl
theorem cDs:Has P9 82:=⟨Tryz.f82,_,Tryz.func82,by kernel_rfl,rfl⟩
section
variable{xs:List El}{c c1 c2 r sz:Nat}(S:jO c1 c2 r)
theorem aBj(hn:xs.length<900000)(hs:∀x∈xs,aC2 c1 c2 S.lw x)(hc:aD P9 38 [cW 0 xs.length c,ciV c1 c2 r,.bool false] ⟨1,[(0,.cells (cellsOf xs) sz)]⟩ (.int .i64 0))(h0:lP S (-1) xs xs.length=[]):
  aD P9 31 [cW 0 xs.length c,ciV c1 c2 r] ⟨1,[(0,.cells (cellsOf xs) sz)]⟩ (inV bL):=by
 obtain⟨H',h1,h2⟩:=aT9 (w:=-1) (o:=0) S (nN xs) hn hs (cL xs).2.1 hc;rw[h0]at h2;have hf:aD P9 82 [cW 0 xs.length c,ciV c1 c2 r,.int .i64 (-1)] ⟨1,[(0,.cells (cellsOf xs) sz)]⟩ (inV bL):=λρ w args' hi ha=>(h2 ρ w args' hi ha).mono λe w' ⟨ρ',v',he,hr,hn⟩=>by subst he;have hr:dW ρ' (inV bL) v':=hr;exact⟨by rw[hr.flat_eq rfl],⟨hn.os,hn.tape,hn.output,hn.size,λb hb=>hn.keep b hb λk o s hk hm=>absurd (hi.wf k o hm) (by simp only;omega)⟩⟩
 have hf':aD P9 82 [cW 0 xs.length c,ciV c1 c2 r,.int .i64 (-1)] ⟨3,abD xs.length c c1 c2 r++[(0,.cells (cellsOf xs) sz)]⟩ (inV bL):=aD.one (b:=0) hf (cL _).2.1 (by simp) rfl;have e:=bEj (Ex×Env×dF) (fJ P9 82 (inV bL)) (cellsOf xs) sz xs.length c c1 c2 r λex e O=>some (ex,e,O)
 rw[cO hf']at e;exact fK (C:=inC [(82,bF (inV bL) (fJ P9 82 (inV bL)))] []) (args:=[cW 0 xs.length c,ciV c1 c2 r]) (H:=⟨1,[(0,.cells (cellsOf xs) sz)]⟩) (lS jR .nil lY (.cons (gL rfl) cDs .nil) .nil (jX .nil)) aO (L:=noL) Tryz.func31 aY2 (λa _=>qU) (kK rfl) e (.inr rfl) (vs:=[bL,.int .i64 0]) rfl rfl
theorem aOu(hn:xs.length<900000)(hs:∀x∈xs,aC2 c1 c2 S.lw x)(hc:aD P9 38 [cW 0 xs.length c,ciV c1 c2 r,.bool false] ⟨1,[(0,.cells (cellsOf xs) sz)]⟩ (.int .i64 0)){j0:Nat}{js:List Nat}(h0:lP S (-1) xs xs.length=j0::js){H:AH}(hH:(0,qQ.cells (cellsOf xs) sz)∈H.objs):
  oK P9 31 [cW 0 xs.length c,ciV c1 c2 r] H (inV (sl3 H.next (j0::js).length)) (H.push (.cells (wF (j0::js)) 1)):=by
 obtain⟨H',h1,h2⟩:=aT9 (w:=-1) (o:=0) S (nN xs) hn hs (cL xs).2.1 hc;have h1:=h1 j0 js h0;rw[h0]at h2;have hm:oK P9 82 [cW 0 xs.length c,ciV c1 c2 r,.int .i64 (-1)] ⟨3,abD xs.length c c1 c2 r++[(0,.cells (cellsOf xs) sz)]⟩ (inV (sl3 3 (j0::js).length)) (AH.push ⟨3,abD xs.length c c1 c2 r++[(0,.cells (cellsOf xs) sz)]⟩ (.cells (wF (j0::js)) 1)):=
  aMg (b:=0) (v:=λk=>inV (sl3 k (j0::js).length)) (cL xs).2.1 (oT (j0::js)) (by simp) rfl rfl h1 h2
 have e:=bEk (Ex×Env×dF) (jL P9 82 1 (λb=>inV (sl3 b (j0::js).length)) (wF (j0::js))) (cellsOf xs) sz xs.length c (j0::js).length c1 c2 r λex e O=>some (ex,e,O)
 rw[sE hm]at e;obtain⟨H1,hO,g⟩:=aI5 (C:=inC [] [(82,jA 1 (λb=>inV (sl3 b (j0::js).length)) (jL P9 82 1 (λb=>inV (sl3 b (j0::js).length)) (wF (j0::js))))]) (args:=[cW 0 xs.length c,ciV c1 c2 r]) (H:=⟨1,[(0,.cells (cellsOf xs) sz)]⟩) (lS jR .nil lY .nil (.cons aEl cDs .nil) (jX .nil)) aO (L:=noL) Tryz.func31 aY2 (λa _=>qU) (kK rfl) e (.inr rfl) (vs:=[sl3 3 (j0::js).length,.int .i64 0]) rfl;exact aMg (b:=0) (v:=λk=>inV (sl3 k (j0::js).length)) (cL xs).2.1 (oT (j0::js)) hH rfl rfl (hO _ (by simp)) g
end
end Go.Vm
