/- A part; no conditions. -/
import Derived.Test.YtaogignikkjkjaaGreatVmXP
set_option maxRecDepth 1000000
set_option maxHeartbeats 1000000
set_option linter.all false
open Go.Proofs.Tryz renaming prog->P9
open Nat renaming beq->N9
open Bool renaming and_eq_true->B9
open Go renaming Value->V9,IntKind->K9,floatOfInt->U9,floatToIntVal->J9
namespace Go.Vm
open Go.Proofs Ieee
noncomputable def tmK(lim:Nat->Bool):Cx:=tmC lim aG aNp jC kO mdK aCc rSt (rAp P9)
theorem wS(lim:Nat->Bool):(tmK lim).Ok:=lS jR (.cons k68 h68 (.cons k53 h53 (.cons k20 h69 (.cons k59 h59 .nil)))) lY .nil .nil (jX (.cons (bEq bT1) .nil))
theorem aAy:fP tmA=[]:=by kernel_rfl
theorem aKp:Tryz.f22.body=some (bB 22):=by kernel_rfl
def mks(xs:List Six):List El:=(xs.map mB).map Th.el
section
variable{cs:List V9}{sz c:Nat}{xs:List Six}{cx cy r:Int}
def tmH(cs:List V9)(sz:Nat)(cx cy r:Int)(ys:List El):AH:=match ys with
 |[]=>⟨4,tmD bL (fI cx) (fI cy) (fI r)++[(0,.cells cs sz)]⟩
 |_::_=>⟨5,tmD (sl3 4 ys.length) (fI cx) (fI cy) (fI r)++[(4,.cells (cellsOf ys) 4)]++[(0,.cells cs sz)]⟩
theorem bCc(hr:Rin cx cy r)(hx:aGe cs xs){k:Nat}{h:Six}(hk:xs[k]?=some h)(h6:k<6)(hs:aG2 cx cy r (mB h)=false){ys:List El}(hl:ys.length=k):
  cI P9 1 127 ⟨4,tmD bL (fI cx) (fI cy) (fI r)++[(0,.cells cs sz)]⟩ (tmE xs.length c k) (tmH cs sz cx cy r ys) .normal (tmE xs.length c (k+1:Nat)) (tmH cs sz cx cy r (ys++[(mB h).el])) (λQ a w=>tmA.wp P9 Q a w):=by
 have hkn:=(List.getElem?_eq_some_iff.1 hk).1;cases ys with
 |nil=>
  simp only[List.length_nil]at hl;subst hl;show cI P9 1 127 _ _ _ _ _ ⟨5,tmD (sl3 4 1) (fI cx) (fI cy) (fI r)++[(4,.cells ((mB h).el.cs++[]) 4)]++[(0,.cells cs sz)]⟩ _;rw[List.append_nil];exact bK (C:=tmK oa0) (H0:=⟨4,tmD bL (fI cx) (fI cy) (fI r)++[(0,.cells cs sz)]⟩) (e:=tmE xs.length c (0:Nat)) (H:=⟨4,tmD bL (fI cx) (fI cy) (fI r)++[(0,.cells cs sz)]⟩) (n:=60) (ts:=[7,0,3,4,6,5]) (bo:=[3,2,1,7]) (bs:=[7])
   (A:=tmD (sl3 4 1) (fI cx) (fI cy) (fI r)++[(4,.cells (mB h).el.cs 4)]) (B:=[(0,.cells cs sz)]) (D:=tmD bL (fI cx) (fI cy) (fI r)) (wS _) aO aAy
   (by unfold tmK;refine(aNh aG _ aNp jC kO mdK aCc rSt (rAp P9) cs sz xs.length c 0 _ _ _ _).trans ?_;rw[D7 (show((0:Nat):Int)<xs.length by omega),T7,D7 (show((0:Nat):Int)<6 by omega),T7,aUa hr hx hk,hs,F7,aI,fN (by omega),El.cs_eq]) rfl
   rfl rfl rfl rfl rfl rfl
 |cons y0 ys=>
  have hc:cellsOf ((y0::ys)++[(mB h).el])=cellsOf (y0::ys)++(mB h).el.cs:=by rw[aLj];show _++((mB h).el.cs++[])=_;rw[List.append_nil]
  show cI P9 1 127 _ _ _ _ _ ⟨5,tmD (sl3 4 ((y0::ys)++[(mB h).el]).length) (fI cx) (fI cy) (fI r)++[(4,.cells (cellsOf ((y0::ys)++[(mB h).el])) 4)]++[(0,.cells cs sz)]⟩ _;rw[hc,List.length_append];have hf:kZ 0 (cellsOf (y0::ys)++(mB h).el.cs)=true:=tC (cL _).2.1 rfl;exact bK (C:=tmK aPn) (H0:=⟨4,tmD bL (fI cx) (fI cy) (fI r)++[(0,.cells cs sz)]⟩) (e:=tmE xs.length c k) (H:=⟨5,tmD (sl3 4 (y0::ys).length) (fI cx) (fI cy) (fI r)++[(4,.cells (cellsOf (y0::ys)) 4)]++[(0,.cells cs sz)]⟩) (n:=60) (ts:=[7,0,3,4,6,5]) (bo:=[3,2,1,8]) (bs:=[8])
   (A:=tmD (sl3 4 ((y0::ys).length+1)) (fI cx) (fI cy) (fI r)++[(4,.cells (cellsOf (y0::ys)++(mB h).el.cs) 4)]) (B:=[(0,.cells cs sz)]) (D:=tmD bL (fI cx) (fI cy) (fI r)) (wS _) aO aAy
   (by
    unfold tmK;refine(aNi aG _ aNp jC kO mdK aCc rSt (rAp P9) cs _ sz xs.length c k _ _ _ _ _).trans ?_;rw[D7 (show(k:Int)<xs.length by omega),T7,D7 (show(k:Int)<6 by omega),T7,aUa hr hx hk,hs,F7,qK (cL (y0::ys)).1 rfl rfl (by omega) (by omega),aI,fN (by omega)]
    try rfl) rfl
   (by show fD _ ((3,.cells [sl3 8 ((y0::ys).length+1)] 0)::(2,.cells [bL] 0)::(1,.cells [.complex .f64 (fI cx) (fI cy),.float .f64 (fI r)] 0)::[(8,.cells (cellsOf (y0::ys)++(mB h).el.cs) 4)])=_;simp only[fD,pN,qJ,nH];rw[bQ hf];rfl) rfl rfl rfl rfl rfl
theorem bV0(hr:Rin cx cy r)(hx:aGe cs xs){k:Nat}{h:Six}(hk:xs[k]?=some h)(h6:k<6)(hs:aG2 cx cy r (mB h)=true){ys:List El}(hl:ys.length=k):
  ∃v nx,(v=bL\/∃j,v=sl3 4 j)/\cI P9 1 127 ⟨4,tmD bL (fI cx) (fI cy) (fI r)++[(0,.cells cs sz)]⟩ (tmE xs.length c k) (tmH cs sz cx cy r ys) .ret (tmE xs.length c k++[(5,.bool false)]) ⟨nx,tmO v v (fI cx) (fI cy) (fI r)++[(0,.cells cs sz)]⟩ (λQ a w=>tmA.wp P9 Q a w):=by
 have hkn:=(List.getElem?_eq_some_iff.1 hk).1;cases ys with
 |nil=>
  simp only[List.length_nil]at hl;subst hl;refine⟨bL,4,.inl rfl,?_⟩;exact bK (C:=tmK oa0) (H0:=⟨4,tmD bL (fI cx) (fI cy) (fI r)++[(0,.cells cs sz)]⟩) (e:=tmE xs.length c (0:Nat)) (H:=⟨4,tmD bL (fI cx) (fI cy) (fI r)++[(0,.cells cs sz)]⟩) (n:=60) (ts:=[7,0,3,4,6,5]) (bo:=[3,2,1,7]) (bs:=[])
   (A:=tmO bL bL (fI cx) (fI cy) (fI r)) (B:=[(0,.cells cs sz)]) (D:=tmD bL (fI cx) (fI cy) (fI r)) (wS _) aO aAy
   (by unfold tmK;refine(aNh aG _ aNp jC kO mdK aCc rSt (rAp P9) cs sz xs.length c 0 _ _ _ _).trans ?_;rw[D7 (show((0:Nat):Int)<xs.length by omega),T7,D7 (show((0:Nat):Int)<6 by omega),T7,aUa hr hx hk,hs,T7]) rfl
   rfl rfl rfl rfl rfl rfl
 |cons y0 ys=>
  refine⟨sl3 4 (y0::ys).length,5,.inr ⟨_,rfl⟩,?_⟩;exact bK (C:=tmK aPn) (H0:=⟨4,tmD bL (fI cx) (fI cy) (fI r)++[(0,.cells cs sz)]⟩) (e:=tmE xs.length c k) (H:=⟨5,tmD (sl3 4 (y0::ys).length) (fI cx) (fI cy) (fI r)++[(4,.cells (cellsOf (y0::ys)) 4)]++[(0,.cells cs sz)]⟩) (n:=60) (ts:=[7,0,3,4,6,5]) (bo:=[3,2,1,8]) (bs:=[4])
   (A:=tmO (sl3 4 (y0::ys).length) (sl3 4 (y0::ys).length) (fI cx) (fI cy) (fI r)) (B:=[(0,.cells cs sz)]) (D:=tmD bL (fI cx) (fI cy) (fI r)) (wS _) aO aAy
   (by unfold tmK;refine(aNi aG _ aNp jC kO mdK aCc rSt (rAp P9) cs _ sz xs.length c k _ _ _ _ _).trans ?_;rw[D7 (show(k:Int)<xs.length by omega),T7,D7 (show(k:Int)<6 by omega),T7,aUa hr hx hk,hs,T7]) rfl
   rfl rfl rfl rfl rfl rfl
theorem bPi{n k:Nat}(h:(decide ((k:Int)<n)&&decide ((k:Int)<6))=false){R:Type}(a b:Option R):(bif decide ((k:Int)<n) then bif decide ((k:Int)<6) then a else b else b)=b:=by
 cases h1:decide ((k:Int)<n) with
 |false=>rfl
 |true=>rw[h1,Bool.true_and]at h;rw[h];rfl
theorem bPe{n k:Nat}(hk:(decide ((k:Int)<n)&&decide ((k:Int)<6))=false){ys:List El}(hy:0<ys.length):
  cI P9 1 127 ⟨4,tmD bL (fI cx) (fI cy) (fI r)++[(0,.cells cs sz)]⟩ (tmE n c k) (tmH cs sz cx cy r ys) (.exit 0) (tmE n c k) ⟨5,(tmD (sl3 4 ys.length) (fI cx) (fI cy) (fI r)++[(4,.cells (cellsOf ys) 4)])++[(0,.cells cs sz)]⟩ (λQ a w=>tmA.wp P9 Q a w):=by
 cases ys with
 |nil=>simp at hy
 |cons y0 ys=>
  exact bK (C:=tmK aPn) (H0:=⟨4,tmD bL (fI cx) (fI cy) (fI r)++[(0,.cells cs sz)]⟩) (e:=tmE n c k) (H:=⟨5,tmD (sl3 4 (y0::ys).length) (fI cx) (fI cy) (fI r)++[(4,.cells (cellsOf (y0::ys)) 4)]++[(0,.cells cs sz)]⟩) (n:=60) (ts:=[7,0,3,4,6,5]) (bo:=[3,2,1,4]) (bs:=[4])
   (A:=tmD (sl3 4 (y0::ys).length) (fI cx) (fI cy) (fI r)++[(4,.cells (cellsOf (y0::ys)) 4)]) (B:=[(0,.cells cs sz)]) (D:=tmD bL (fI cx) (fI cy) (fI r)) (wS _) aO aAy
   (by
    unfold tmK;refine(bCb aG _ aNp jC kO mdK aCc rSt (rAp P9) cs _ sz n c k _ _ _ _ _).trans ?_;rw[bPi hk]) rfl
   (by show fD _ ((3,.cells [sl3 4 (y0::ys).length] 0)::(2,.cells [bL] 0)::(1,.cells [.complex .f64 (fI cx) (fI cy),.float .f64 (fI r)] 0)::[(4,.cells (cellsOf (y0::ys)) 4)])=_;simp only[fD,pN,qJ,nH];rw[bQ (cL _).2.1];rfl) rfl rfl rfl rfl rfl
theorem aSo{k:Nat}{h:Six}(hk:xs[k]?=some h):mks (xs.take (k+1))=mks (xs.take k)++[(mB h).el]:=by unfold mks;rw[List.take_add_one,hk];simp
theorem aEy(xs:List Six):(mks xs).length=xs.length:=by unfold mks;simp
def six(n:Nat):Nat:=min n 6
theorem aPe(hr:Rin cx cy r)(hx:aGe cs xs)(h0:0<xs.length)(hs:∀h∈xs.take 6,aG2 cx cy r (mB h)=false):
  dH P9 1 127 ⟨4,tmD bL (fI cx) (fI cy) (fI r)++[(0,.cells cs sz)]⟩ tmA (tmE xs.length c (0:Nat)) ⟨4,tmD bL (fI cx) (fI cy) (fI r)++[(0,.cells cs sz)]⟩ (.exit 0) (tmE xs.length c (six xs.length)) ⟨5,(tmD (sl3 4 (six xs.length)) (fI cx) (fI cy) (fI r)++[(4,.cells (cellsOf (mks (xs.take 6))) 4)])++[(0,.cells cs sz)]⟩:=by
 have hm:six xs.length<=xs.length/\six xs.length<=6/\0<six xs.length/\(six xs.length=xs.length\/six xs.length=6):=by unfold six;omega
 have ht:xs.take (six xs.length)=xs.take 6:=by
  rcases hm.2.2.2 with e|e;· rw[e,List.take_length,List.take_of_length_le (by omega)]
  ·rw[e]
 refine fQ (E:=λk:Nat=>tmE xs.length c k) (H:=λk=>tmH cs sz cx cy r (mks (xs.take k))) (six xs.length) 0 (λk _ hk=>?_) (gY (by intro h;cases h) ?_);· have hk':=List.getElem?_eq_getElem (show k<xs.length by omega);rw[aSo hk'];refine bCc hr hx hk' (by omega) (hs _ ?_) (by rw[aEy,List.length_take];omega);refine List.mem_iff_getElem?.2 ⟨k,?_⟩;rw[List.getElem?_take_of_lt (by omega)];exact hk'
 ·simp only[Nat.zero_add];rw[ht];have hl:(mks (xs.take 6)).length=six xs.length:=by rw[aEy,List.length_take];unfold six;omega
  have:=bPe (cs:=cs) (sz:=sz) (cx:=cx) (cy:=cy) (r:=r) (n:=xs.length) (c:=c) (k:=six xs.length) (by
   rcases hm.2.2.2 with e|e;· rw[e,E7 (by omega)];rfl
   ·rw[e,Bool.and_eq_false_iff];exact .inr (E7 (by omega))) (ys:=mks (xs.take 6)) (by omega)
  rw[hl]at this;exact this
theorem aEv(hr:Rin cx cy r)(hx:aGe cs xs)(hs:(xs.take 6).any (λh=>aG2 cx cy r (mB h))=true):
  ∃(j:Nat)(v:V9)(nx:Nat),(v=bL\/∃j,v=sl3 4 j)/\dH P9 1 127 ⟨4,tmD bL (fI cx) (fI cy) (fI r)++[(0,.cells cs sz)]⟩ tmA (tmE xs.length c (0:Nat)) ⟨4,tmD bL (fI cx) (fI cy) (fI r)++[(0,.cells cs sz)]⟩ .ret (tmE xs.length c j++[(5,.bool false)]) ⟨nx,tmO v v (fI cx) (fI cy) (fI r)++[(0,.cells cs sz)]⟩:=by
 obtain⟨j,h,h1,h2,h3⟩:=aIy hs;have hj:=(List.getElem?_eq_some_iff.1 h1).1;rw[List.length_take]at hj;have up:∀{i:Nat}{g:Six},i<6->xs[i]?=some g->(xs.take 6)[i]?=some g:=λhi hg=>by rw[List.getElem?_take_of_lt hi];exact hg
 have h1':xs[j]?=some h:=by rw[List.getElem?_take_of_lt (by omega)]at h1;exact h1
 obtain⟨v,nx,hv,hbad⟩:=bV0 (sz:=sz) (c:=c) hr hx h1' (by omega) h2 (ys:=mks (xs.take j)) (by rw[aEy,List.length_take];omega);refine⟨j,v,nx,hv,fQ (E:=λk:Nat=>tmE xs.length c k) (H:=λk=>tmH cs sz cx cy r (mks (xs.take k))) j 0 (λk _ hk=>?_) (gY (by intro h;cases h) ?_)⟩;· have hk':=List.getElem?_eq_getElem (show k<xs.length by omega);rw[aSo hk'];exact bCc hr hx hk' (by omega) (h3 k _ (by omega) (up (by omega) hk')) (by rw[aEy,List.length_take];omega)
 ·simp only[Nat.zero_add];exact hbad
theorem aJg(hr:Rin cx cy r)(hx:aGe cs xs)(hs:(xs.take 6).any (λh=>aG2 cx cy r (mB h))=true):
  ∃v H',(v=bL\/∃j,v=sl3 4 j)/\∀ρ w args',Inv ρ ⟨1,[(0,.cells cs sz)]⟩ w->cF ρ [.slice (some ⟨0,0,none⟩) xs.length c,ciV (fI cx) (fI cy) (fI r)] args'->
   Calls P9 22 ⟨args'⟩ w λen w'=>∃ρ' v',en=.returned v'/\dW ρ' (ofV v false) v'/\Next 1 ρ ⟨1,[(0,.cells cs sz)]⟩ w ρ' H' w':=by
 obtain⟨j,v,nx,hv,hB⟩:=aEv (sz:=sz) (c:=c) hr hx hs;have hB':=@gG _ _ _ _ _ _ _ _ _ hB;have h:=bJm aG (Ex×Env×dF) aNp jC kO mdK aCc rSt (rAp P9) cs sz xs.length c (fI cx) (fI cy) (fI r) (λex e O=>some (ex,e,O)) (told P9 .ret (tmE xs.length c j++[(5,.bool false)]) ⟨nx,tmO v v (fI cx) (fI cy) (fI r)++[(0,.cells cs sz)]⟩);have h:=h.trans (gT @hB' _ _);obtain⟨H',hO,g⟩:=aI5 (C:=tmK oa0) (args:=[.slice (some ⟨0,0,none⟩) xs.length c,ciV (fI cx) (fI cy) (fI r)]) (H:=⟨1,[(0,.cells cs sz)]⟩) (wS _) aO Tryz.func22 aKp (λa _=>dJ (gN _ _ _ _ a)) (kK rfl) h (.inr rfl) (vs:=[.agg ⟨[v]⟩,.bool false]) rfl;exact⟨v,H',hv,g⟩
theorem aZp(hr:Rin cx cy r)(hx:aGe cs xs)(h0:0<xs.length)(hs:∀h∈xs.take 6,aG2 cx cy r (mB h)=false):
  ∃H',(4,.cells (cellsOf (mks (xs.take 6))) 4)∈H'.objs/\∀ρ w args',Inv ρ ⟨1,[(0,.cells cs sz)]⟩ w->cF ρ [.slice (some ⟨0,0,none⟩) xs.length c,ciV (fI cx) (fI cy) (fI r)] args'->
   Calls P9 22 ⟨args'⟩ w λen w'=>∃ρ' v',en=.returned v'/\dW ρ' (ofV (sl3 4 (six xs.length)) true) v'/\Next 1 ρ ⟨1,[(0,.cells cs sz)]⟩ w ρ' H' w':=by
 have hB':=@gG _ _ _ _ _ _ _ _ _ (aPe (sz:=sz) (c:=c) hr hx h0 hs);have h:=bJm aG (Ex×Env×dF) aNp jC kO mdK aCc rSt (rAp P9) cs sz xs.length c (fI cx) (fI cy) (fI r) (λex e O=>some (ex,e,O)) (told P9 (.exit 0) (tmE xs.length c (six xs.length)) ⟨5,(tmD (sl3 4 (six xs.length)) (fI cx) (fI cy) (fI r)++[(4,.cells (cellsOf (mks (xs.take 6))) 4)])++[(0,.cells cs sz)]⟩);have h:=h.trans (gT @hB' _ _);rw[cX]at h;have h:=h.trans (bV1 aG _ aNp jC kO mdK aCc _ _ cs (cellsOf (mks (xs.take 6))) sz xs.length c (six xs.length) (six xs.length) _ _ _ _ _);obtain⟨H',hO,g⟩:=aI5 (C:=tmK oa0) (args:=[.slice (some ⟨0,0,none⟩) xs.length c,ciV (fI cx) (fI cy) (fI r)]) (H:=⟨1,[(0,.cells cs sz)]⟩) (wS _) aO Tryz.func22 aKp (λa _=>dJ (gN _ _ _ _ a)) (kK rfl) h (.inr rfl) (vs:=[.agg ⟨[sl3 4 (six xs.length)]⟩,.bool true]) rfl;exact⟨H',hO _ (by simp),g⟩
end
open Go.Proofs
def aP6:Sum:=λR args k=>match args with
 |[]=>k (.float .f64 4614256656552045848)
 |_=>none
theorem bWt(R:Type)(k:KVO R):fC (cx P9 [(25,bVe)]) 60 60 [] k=k (.float .f64 4614256656552045848):=by kernel_rfl
theorem bP3(sc:mO)(R:Type)(a b:Nat)(k:KVO R):fC (cx P9 [(60,aP6),(15,tF sc)]) 60 67 [.complex .f64 a b] k=sc R a b 4594902181429758083 λx y=>k (.complex .f64 x y):=by kernel_rfl
theorem h60:Has P9 60:=⟨Tryz.f60,_,Tryz.func60,by kernel_rfl,rfl⟩
theorem cDq:Has P9 67:=⟨Tryz.f67,_,Tryz.func67,by kernel_rfl,rfl⟩
theorem cDr:Has P9 69:=⟨Tryz.f69,_,Tryz.func69,by kernel_rfl,rfl⟩
theorem cFc:Has P9 100:=⟨Tryz.f100,_,Tryz.func100,by kernel_rfl,rfl⟩
theorem cFd:Has P9 101:=⟨Tryz.f101,_,Tryz.func101,by kernel_rfl,rfl⟩
theorem cFe:Has P9 103:=⟨Tryz.f103,_,Tryz.func103,by kernel_rfl,rfl⟩
theorem cFf:Has P9 104:=⟨Tryz.f104,_,Tryz.func104,by kernel_rfl,rfl⟩
theorem bZ0:cH P9 60 aP6:=dL aO (.cons k65 h65 .nil) (n:=60) λR args k r hr=>by
 unfold aP6 at hr;split at hr;· exact⟨rfl,(bWt R k).trans hr⟩
 ·cases hr
theorem cEf:cH P9 67 (sCC reH):=aE9 aO (.cons bZ0 h60 (.cons k39 h39 .nil)) (bP3 eQ)
noncomputable def bW9:List (Int×Int×Nat)->Bool
 |[]=>true
 |(a,b,w)::r=>(match fC (cxm P9 hot) 60 69 [.int .i64 a,.int .i64 b] some with|some (.float .f64 x)=>N9 x w|_=>false)&&bW9 r
theorem aLm{a b:Int}{w:Nat}:∀{l:List (Int×Int×Nat)},bW9 l=true->aEm a b l=some w->fC (cxm P9 hot) 60 69 [.int .i64 a,.int .i64 b] some=some (.float .f64 w)
 |[],_,h=>by cases h
 |(x,y,v)::r,hc,h=>by
  unfold bW9 at hc;simp only[B9]at hc;unfold aEm at h;cases hb:(x==a&&y==b) with
  |true=>
   rw[hb]at h;cases h;simp only[B9,beq_iff_eq]at hb;obtain⟨rfl,rfl⟩:=hb;have h1:=hc.1;split at h1;· rename_i z hz;rw[hz,gO h1]
   ·cases h1
  |false=>rw[hb]at h;exact aLm hc.2 h
theorem bFp:bW9 aMu=true:=by kernel_rfl
theorem cEg:cH P9 69 (sPr gF):=by
 intro R args k r hr;unfold sPr at hr;split at hr;· rename_i a b;unfold gF at hr;obtain⟨w,h1,h2⟩:=aB hr;obtain⟨v,g1,g2,g3⟩:=cD (aD9 aEh) aO (aLm bFp h1) rfl;cases g1;exact⟨rfl,_,h2,g2,g3⟩
 ·cases hr
abbrev aQy:=∀R:Type,Int->Nat->Nat->Nat->Nat->Nat->Nat->Nat->Int->(Nat->Nat->Option R)->Option R
def aTq(g:aQy):Sum:=λR args k=>match args with
 |[.agg ⟨[.int .u8 kind,.complex .f64 a1 a2,.complex .f64 s1 s2,.float .f64 p]⟩,.complex .f64 d1 d2,.int .i64 m]=>g R kind a1 a2 s1 s2 p d1 d2 m λx y=>k (.complex .f64 x y)
 |_=>none
def de1:aQy:=λR kind a1 a2 s1 s2 p d1 d2 m k=>bif decide (m>0) then k 0 0 else k s1 s2
def de2(fi:Fi)(sh:KCC)(pr:KPr)(W:KW)(div:gU)(sc:mO):aQy:=λR kind a1 a2 s1 s2 p d1 d2 m k=>
 sh R s1 s2 λo1 o2=>pr R 1 m λw=>fi R (m.tmod 2) λt=>bif t==1 then
  bH (Op.negFloat .f64 w) λw=>sc R o1 o2 w λu1 u2=>fi R (K9.i64.wrap (m+1)) λi=>W R d1 d2 i λx y=>div R u1 u2 x y k
 else sc R o1 o2 w λu1 u2=>fi R (K9.i64.wrap (m+1)) λi=>W R d1 d2 i λx y=>div R u1 u2 x y k
def de3(fi:Fi)(pr:KPr)(W:KW)(div:gU)(sc:mO):aQy:=λR kind a1 a2 s1 s2 p d1 d2 m k=>
 (J9 .f64 p .i64).bind λn=>fi R n λn=>fi R (K9.i64.wrap (n+m)) λq=>pr R n q λw=>fi R (m.tmod 2) λt=>bif t==0 then
  bH (Op.negFloat .f64 w) λw=>sc R s1 s2 w λu1 u2=>fi R (K9.i64.wrap (n+1)) λi=>fi R (K9.i64.wrap (i+m)) λi=>W R d1 d2 i λx y=>div R u1 u2 x y k
 else sc R s1 s2 w λu1 u2=>fi R (K9.i64.wrap (n+1)) λi=>fi R (K9.i64.wrap (i+m)) λi=>W R d1 d2 i λx y=>div R u1 u2 x y k
def de4(fi:Fi)(pr:KPr)(W:KW)(mul:gU)(sc:mO):aQy:=λR kind a1 a2 s1 s2 p d1 d2 m k=>
 (J9 .f64 p .i64).bind λn=>fi R n λn=>bif decide (m≥n) then k 0 0 else
  fi R (K9.i64.wrap (n-m)) λq=>pr R q n λw=>sc R s1 s2 w λu1 u2=>fi R (K9.i64.wrap (n-1)) λi=>fi R (K9.i64.wrap (i-m)) λi=>W R d1 d2 i λx y=>mul R u1 u2 x y k
noncomputable def dcC(fi:Fi)(sh:KCC)(pr:KPr)(W:KW)(div mul:gU)(sc:mO):Cx:=cxf fi P9 [(67,sCC sh),(69,sPr pr),(15,tF sc),(90,sKW W),(89,jH div),(43,jH mul)] []
section
variable(fi:Fi)(sh:KCC)(pr:KPr)(W:KW)(div mul:gU)(sc:mO)(R:Type)(kind:Int)(a1 a2 s1 s2 p d1 d2:Nat)(m:Int)(k:KVO R)
theorem cBx:fC (dcC fi sh pr W div mul sc) 60 100 [el kind a1 a2 s1 s2 p,.complex .f64 d1 d2,.int .i64 m] k=de1 R kind a1 a2 s1 s2 p d1 d2 m λx y=>k (.complex .f64 x y):=by kernel_rfl
theorem cBy:fC (dcC fi sh pr W div mul sc) 60 101 [el kind a1 a2 s1 s2 p,.complex .f64 d1 d2,.int .i64 m] k=de2 fi sh pr W div sc R kind a1 a2 s1 s2 p d1 d2 m λx y=>k (.complex .f64 x y):=by kernel_rfl
theorem cBz:fC (dcC fi sh pr W div mul sc) 60 103 [el kind a1 a2 s1 s2 p,.complex .f64 d1 d2,.int .i64 m] k=de3 fi pr W div sc R kind a1 a2 s1 s2 p d1 d2 m λx y=>k (.complex .f64 x y):=by kernel_rfl
theorem cB0:fC (dcC fi sh pr W div mul sc) 60 104 [el kind a1 a2 s1 s2 p,.complex .f64 d1 d2,.int .i64 m] k=de4 fi pr W mul sc R kind a1 a2 s1 s2 p d1 d2 m λx y=>k (.complex .f64 x y):=by kernel_rfl
end
theorem bYv:(dcC aG reH gF mV rN dV eQ).Ok:=aGi (.cons cEf cDq (.cons cEg cDr (.cons k39 h39 (.cons bId zS (.cons aSf aR3 (.cons k22 h22 .nil))))))
section
theorem aJu{f:FuncId}{g:aQy}(h:∀(R:Type)(kind:Int)(a1 a2 s1 s2 p d1 d2:Nat)(m:Int)(k:KVO R),fC (dcC aG reH gF mV rN dV eQ) 60 f [el kind a1 a2 s1 s2 p,.complex .f64 d1 d2,.int .i64 m] k=g R kind a1 a2 s1 s2 p d1 d2 m λx y=>k (.complex .f64 x y)):cH P9 f (aTq g):=by
 intro R args k r hr;unfold aTq at hr;split at hr;· exact⟨rfl,cD bYv aO ((h R _ _ _ _ _ _ _ _ _ k).trans hr) rfl⟩
 ·cases hr
end
def aUt:aQy:=de2 aG reH gF mV rN eQ
def aUu:aQy:=de3 aG gF mV rN eQ
def aUv:aQy:=de4 aG gF mV dV eQ
theorem cFt:cH P9 100 (aTq de1):=aJu (cBx _ _ _ _ _ _ _)
theorem cFu:cH P9 101 (aTq aUt):=aJu (cBy _ _ _ _ _ _ _)
theorem cFv:cH P9 103 (aTq aUu):=aJu (cBz _ _ _ _ _ _ _)
theorem cFw:cH P9 104 (aTq aUv):=aJu (cB0 _ _ _ _ _ _ _)
abbrev aUg:=∀R:Type,List V9->Nat->(Nat->Nat->Nat->Nat->Nat->Option R)->Option R
def bXi(kd:Int)(g:aUg):Ld:=λR cs off k=>g R cs off λa1 a2 s1 s2 p=>k (elV kd a1 a2 s1 s2 p)
noncomputable def atA:Code:=sI (bB 68) 0
def bXe(f:Nat):V9:=.func (.func f) #[] #[]
def aUw:List (Int×V9):=[(1,bXe 100),(2,bXe 101),(3,bXe 103),(4,bXe 104)]
noncomputable def atC(lim:Nat->Bool)(kd:Int)(fi:Fi)(ge:aUg)(st:St)(ap:Ap)(sub:gU)(e1 e2 e3 e4:aQy)(gl:List (Nat×vP)):Cx:=
 cxM fi P9 (λ_ _=>none) [(35,jH sub),(100,aTq e1),(101,aTq e2),(103,aTq e3),(104,aTq e4)] [] gl [] (aPh lim [(39,bXi kd ge)] st ap)
def atE(n a1 a2:Nat)(m k:Int):Env:=[(21,.int .i64 k),(20,.int .i64 n),(19,sl3 1 n),(7,.slice (some ⟨4,0,none⟩) n n),(0,.pointer (some ⟨0,0,none⟩)),(1,.complex .f64 a1 a2),(2,.int .i64 m)]
def atO(iv ov:V9):dF:=[(0,.cells [iv,ov,.map (some 2)] 0),(2,.map .u8 aUw)]
def bEp(b:Nat):Bool:=N9 b 1||N9 b 4
def la1(b:Nat):Bool:=N9 b 1
def bKc{R:Type}(kd:Int)(e:aQy)(fi:Fi)(ge:aUg)(st:St)(sub:gU)(cs ts:List V9)(n k a1 a2:Nat)(m:Int)(K:Ex->Env->dF->Option R):Option R:=
  bif decide ((k:Int)<n) then
   bif decide (0<=(k:Int))&&decide ((k:Int)<n)&&true then
    ge R cs (0+k*4) λb1 b2 s1 s2 p=>sub R a1 a2 b1 b2 λd1 d2=>e R kd b1 b2 s1 s2 p d1 d2 m λx y=>
    bif decide (0<=(k:Int))&&decide ((k:Int)<n)&&true then
     st R ts (0+k*1) [.complex .f64 x y] λts=>fi R (K9.i64.wrap (k+1)) λi=>K .normal (atE n a1 a2 m i) [(4,.cells ts 0)]
    else none
   else none
  else K (.exit 0) (atE n a1 a2 m k) [(4,.cells ts 0)]
section
variable(fi:Fi)(R:Type)(ge:aUg)(st:St)(ap:Ap)(sub:gU)(e1 e2 e3 e4:aQy)(cs ts:List V9)(sz n k a1 a2 x y:Nat)(m kd:Int)(iv:V9)(K:Ex->Env->dF->Option R)
theorem bQ7:bE (atC bEp 1 fi ge st ap sub e1 e2 e3 e4 []) 60 noL 4 46 atA (atE n a1 a2 m k) ⟨5,[(4,.cells ts 0)]++([(1,.cells cs 4)]++atO iv (sl3 1 n))⟩ (aU [21,20,19,7,0,1,2] [4] K)=bKc 1 e1 fi ge st sub cs ts n k a1 a2 m K:=by kernel_rfl
theorem bQ8:bE (atC bEp 2 fi ge st ap sub e1 e2 e3 e4 []) 60 noL 4 46 atA (atE n a1 a2 m k) ⟨5,[(4,.cells ts 0)]++([(1,.cells cs 4)]++atO iv (sl3 1 n))⟩ (aU [21,20,19,7,0,1,2] [4] K)=bKc 2 e2 fi ge st sub cs ts n k a1 a2 m K:=by kernel_rfl
theorem bQ9:bE (atC bEp 3 fi ge st ap sub e1 e2 e3 e4 []) 60 noL 4 46 atA (atE n a1 a2 m k) ⟨5,[(4,.cells ts 0)]++([(1,.cells cs 4)]++atO iv (sl3 1 n))⟩ (aU [21,20,19,7,0,1,2] [4] K)=bKc 3 e3 fi ge st sub cs ts n k a1 a2 m K:=by kernel_rfl
theorem bRa:bE (atC bEp 4 fi ge st ap sub e1 e2 e3 e4 []) 60 noL 4 46 atA (atE n a1 a2 m k) ⟨5,[(4,.cells ts 0)]++([(1,.cells cs 4)]++atO iv (sl3 1 n))⟩ (aU [21,20,19,7,0,1,2] [4] K)=bKc 4 e4 fi ge st sub cs ts n k a1 a2 m K:=by kernel_rfl
variable(L:qR)(gs:HT)
theorem bRb:bE (atC bEp kd fi ge st ap sub e1 e2 e3 e4 [(44,bF (.complex .f64 x y) gs)]) 60 (eS [21,20,19,7,0,1,2] [4,1,0,2] L) 4 46 (bB 68) (gX 0 [.pointer (some ⟨0,0,none⟩),.complex .f64 a1 a2,.int .i64 m]) ⟨4,[(1,.cells cs 4)]++atO iv (sl3 1 n)⟩ (aU [6] [] K) =
  bif decide (0<=(n:Int))&&decide ((n:Int)<=n)&&decide ((n:Int)<=4294967296)&&decide ((16:Int)*n<=281474976710656) then
   L R 4 46 atA (atE n a1 a2 m 0) ⟨5,[(4,.cells (yS n) 0)]++([(1,.cells cs 4)]++atO iv (sl3 1 n))⟩
    (fS 0 (jP (λen H=>bE (atC bEp kd fi ge st ap sub e1 e2 e3 e4 [(44,bF (.complex .f64 x y) gs)]) 60 (eS [21,20,19,7,0,1,2] [4,1,0,2] L) 4 46 (lJ 3 (bB 68)) en H (aU [6] [] K)) (aU [6] [] K)))
  else none:=by kernel_rfl
theorem bQ5:bE (atC bEp kd fi ge st ap sub e1 e2 e3 e4 [(44,bF (.complex .f64 x y) gs)]) 60 L 4 46 (lJ 3 (bB 68)) (atE n a1 a2 m k) ⟨5,[(4,.cells ts 0)]++([(1,.cells cs 4)]++atO iv (sl3 1 n))⟩ (aU [6] [] K) =
  gs R [.slice (some ⟨4,0,none⟩) n n] ⟨5,[(4,.cells ts 0)]++([(1,.cells cs 4)]++atO iv (sl3 1 n))⟩ (K .ret [(6,.complex .f64 x y)] []):=by kernel_rfl
end
def rQ(kd:Int):aUg:=λR cs off k=>match cs.drop off with
 |.int .u8 kind::.complex .f64 a1 a2::.complex .f64 s1 s2::.float .f64 p::_=>bif kind==kd then k a1 a2 s1 s2 p else none
 |_=>none
theorem uZ{P:Program}{t:TypeId}{kd:Int}(h:tO P t 4):bJx P t (bXi kd (rQ kd)):=λR cs off k r hr=>by
 unfold bXi rQ at hr;split at hr
 ·rename_i kind a1 a2 s1 s2 p rest hc;cases hk:kind==kd with
  |false=>rw[hk]at hr;cases hr
  |true=>
   have e:kind=kd:=by simpa using hk
   subst e;rw[hk]at hr;obtain⟨g1,g2⟩:=aJk (l:=[.int .u8 kind,.complex .f64 a1 a2,.complex .f64 s1 s2,.float .f64 p]) (r:=rest) hc (by simp);refine⟨_,hr,λR' k'=>?_⟩;simp only[List.length_cons,List.length_nil]at g1 g2;rw[h,g1,g2];rfl
 ·cases hr
noncomputable def bYk(kd:Int)(x y:Nat):Cx:=atC bEp kd aG (rQ kd) rSt (rAp P9) gJ de1 aUt aUu aUv [(44,bF (.complex .f64 x y) (fJ P9 44 (.complex .f64 x y)))]
noncomputable def bW7(kd:Int):Cx:=atC bEp kd aG (rQ kd) rSt (rAp P9) gJ de1 aUt aUu aUv []
noncomputable def cCu(kd:Int)(x y:Nat):Cx:=atC la1 kd aG (rQ kd) rSt (rAp P9) gJ de1 aUt aUu aUv [(44,bF (.complex .f64 x y) (fJ P9 44 (.complex .f64 x y)))]
theorem aEz:tO P9 39 4:=λR cs off k=>by kernel_rfl
theorem aW0:mE P9 [(35,jH gJ),(100,aTq de1),(101,aTq aUt),(103,aTq aUu),(104,aTq aUv)]:=.cons k21 h21 (.cons cFt cFc (.cons cFu cFd (.cons cFv cFe (.cons cFw cFf .nil))))
theorem bJ9(kd:Int)(x y:Nat):(bYk kd x y).Ok:=lS jR aW0 lY (.cons (gL rfl) aWd .nil) .nil (jX (.cons (uZ aEz) .nil))
theorem aWy(kd:Int):(bW7 kd).Ok:=lS jR aW0 lY .nil .nil (jX (.cons (uZ aEz) .nil))
theorem aWz(kd:Int)(x y:Nat):(cCu kd x y).Ok:=lS jR aW0 lY (.cons (gL rfl) aWd .nil) .nil (jX (.cons (uZ aEz) .nil))
theorem aQ2:fP atA=[]:=by kernel_rfl
theorem aW1:Tryz.f68.body=some (bB 68):=by kernel_rfl
def deK(kind:Int):aQy:=bif kind==1 then de1 else bif kind==2 then aUt else bif kind==3 then aUu else aUv
structure bJp(a1 a2:Nat)(m:Int)(X:El)(v:Nat×Nat):Prop where
 kd:X.kind=1\/X.kind=2\/X.kind=3\/X.kind=4
 run:∀(R:Type)(K:KNN R),(gJ R a1 a2 X.a1 X.a2 λd1 d2=>deK X.kind R X.kind X.a1 X.a2 X.s1 X.s2 X.p d1 d2 m K)=K v.1 v.2
theorem bHe{kd:Int}(hk:kd=1\/kd=2\/kd=3\/kd=4)(R:Type)(cs ts:List V9)(n k a1 a2:Nat)(m:Int)(iv:V9)(K:Ex->Env->dF->Option R):
  bE (bW7 kd) 60 noL 4 46 atA (atE n a1 a2 m k) ⟨5,[(4,.cells ts 0)]++([(1,.cells cs 4)]++atO iv (sl3 1 n))⟩ (aU [21,20,19,7,0,1,2] [4] K)=bKc kd (deK kd) aG (rQ kd) rSt gJ cs ts n k a1 a2 m K:=by
 rcases hk with rfl|rfl|rfl|rfl;· exact bQ7 aG R _ rSt _ gJ de1 aUt aUu aUv cs ts n k a1 a2 m iv K
 ·exact bQ8 aG R _ rSt _ gJ de1 aUt aUu aUv cs ts n k a1 a2 m iv K
 ·exact bQ9 aG R _ rSt _ gJ de1 aUt aUu aUv cs ts n k a1 a2 m iv K
 ·exact bRa aG R _ rSt _ gJ de1 aUt aUu aUv cs ts n k a1 a2 m iv K
section
variable{ys:List El}{a1 a2:Nat}{m:Int}{iv:V9}{v:Nat->Nat×Nat}
def atH(ys:List El)(iv:V9)(v:Nat->Nat×Nat)(k:Nat):AH:=⟨5,[(4,.cells (fil v ys.length k) 0)]++([(1,.cells (cellsOf ys) 4)]++atO iv (sl3 1 ys.length))⟩
theorem bKf(hn:ys.length<100000)(hv:∀i X,ys[i]?=some X->bJp a1 a2 m X (v i)){k:Nat}(hk:k<ys.length):
  cI P9 4 46 (atH ys iv v 0) (atE ys.length a1 a2 m k) (atH ys iv v k) .normal (atE ys.length a1 a2 m (k+1:Nat)) (atH ys iv v (k+1)) (λQ a w=>atA.wp P9 Q a w):=by
 have hk':=List.getElem?_eq_getElem hk;have hd:=hv k _ hk';obtain⟨rest,e⟩:=nN ys k _ hk';generalize ys[k]=X at *
 have er:∀(R:Type)(K:Nat->Nat->Nat->Nat->Nat->Option R),rQ X.kind R (cellsOf ys) (0+k*4) K=K X.a1 X.a2 X.s1 X.s2 X.p:=λR K=>by unfold rQ;rw[e];show(bif X.kind==X.kind then K X.a1 X.a2 X.s1 X.s2 X.p else none)=_;rw[show(X.kind==X.kind)=true by simp];rfl
 exact bK (C:=bW7 X.kind) (H0:=atH ys iv v 0) (e:=atE ys.length a1 a2 m k) (H:=atH ys iv v k) (n:=60) (ts:=[21,20,19,7,0,1,2]) (bo:=[4]) (bs:=[]) (A:=[(4,.cells (fil v ys.length (k+1)) 0)]) (B:=[(1,.cells (cellsOf ys) 4)]++atO iv (sl3 1 ys.length)) (D:=[(4,.cells (fil v ys.length 0) 0)]) (e1:=atE ys.length a1 a2 m (k+1:Nat)) (O1:=[(4,.cells (fil v ys.length (k+1)) 0)]) (aWy _) aO aQ2
  (by
   refine(bHe hd.kd _ (cellsOf ys) (fil v ys.length k) ys.length k a1 a2 m iv _).trans ?_;unfold bKc;rw[D7 (show(k:Int)<ys.length by omega),T7,jN,T7,er,hd.run,T7];unfold rSt;rw[iJ (by rw[yK v (by omega)];simp;omega),T7,zP v hk];show aG (Ex×Env×dF) _ _=_;rw[aI,fN (by omega)]) rfl
  (by show fD _ [(4,.cells (fil v ys.length (k+1)) 0)]=_;simp only[fD,pN];rw[bQ (qY v ys.length (k+1))];rfl) rfl rfl rfl rfl rfl
theorem bKe(hn:ys.length<100000):
  cI P9 4 46 (atH ys iv v 0) (atE ys.length a1 a2 m ys.length) (atH ys iv v ys.length) (.exit 0) (atE ys.length a1 a2 m ys.length) (atH ys iv v ys.length) (λQ a w=>atA.wp P9 Q a w):=by
 exact bK (C:=bW7 1) (H0:=atH ys iv v 0) (e:=atE ys.length a1 a2 m ys.length) (H:=atH ys iv v ys.length) (n:=60) (ts:=[21,20,19,7,0,1,2]) (bo:=[4]) (bs:=[]) (A:=[(4,.cells (fil v ys.length ys.length) 0)]) (B:=[(1,.cells (cellsOf ys) 4)]++atO iv (sl3 1 ys.length)) (D:=[(4,.cells (fil v ys.length 0) 0)]) (e1:=atE ys.length a1 a2 m ys.length) (O1:=[(4,.cells (fil v ys.length ys.length) 0)]) (aWy _) aO aQ2
  (by
   refine(bHe (.inl rfl) _ (cellsOf ys) (fil v ys.length ys.length) ys.length ys.length a1 a2 m iv _).trans ?_;unfold bKc;rw[E7 (by omega),F7]) rfl
  (by show fD _ [(4,.cells (fil v ys.length ys.length) 0)]=_;simp only[fD,pN];rw[bQ (qY v ys.length ys.length)];rfl) rfl rfl rfl rfl rfl
theorem aW3(hn:ys.length<100000)(hv:∀i X,ys[i]?=some X->bJp a1 a2 m X (v i)):
  dH P9 4 46 (atH ys iv v 0) atA (atE ys.length a1 a2 m (0:Nat)) (atH ys iv v 0) (.exit 0) (atE ys.length a1 a2 m ys.length) (atH ys iv v ys.length):=by
 refine fQ (E:=λk:Nat=>atE ys.length a1 a2 m k) (H:=λk=>atH ys iv v k) ys.length 0 (λk _ hk=>bKf hn hv (by omega)) (gY (by intro h;cases h) ?_);simp only[Nat.zero_add];exact bKe hn
theorem bKd{x y:Nat}{g:Nat->Nat×Nat}(h0:1<=ys.length)(hn:ys.length<100000)(hv:∀i X,ys[i]?=some X->bJp a1 a2 m X (v i))(hs:aGf (lst v ys.length) g)(hx:g ys.length=(x,y)):
  aD P9 68 [.pointer (some ⟨0,0,none⟩),.complex .f64 a1 a2,.int .i64 m] ⟨4,[(1,.cells (cellsOf ys) 4)]++atO iv (sl3 1 ys.length)⟩ (.complex .f64 x y):=by
 have hB:=@gG _ _ _ _ _ _ _ _ _ (aW3 (iv:=iv) hn hv);have hsum:aD P9 44 [.slice (some ⟨4,0,none⟩) ys.length ys.length] (atH ys iv v ys.length) (.complex .f64 x y):=by have:=pS (cs:=bA (lst v ys.length)) (sz:=0) (o:=0) (c:=ys.length) (zs:=lst v ys.length) (f:=g) (mG _) (by rw[qO];omega) hs;rw[qO,hx]at this;refine aD.one (b:=4) this (oO _) ?_ rfl;unfold atH;rw[aEa];simp
 have ht:=bRb aG (Ex×Env×dF) (rQ 1) rSt (rAp P9) gJ de1 aUt aUu aUv (cellsOf ys) ys.length a1 a2 x y m 1 iv (λex e O=>some (ex,e,O)) (told P9 (.exit 0) (atE ys.length a1 a2 m ys.length) (atH ys iv v ys.length)) (fJ P9 44 (.complex .f64 x y));rw[D7 (show(0:Int)<=(ys.length:Int) by omega),D7 (show(ys.length:Int)<=(ys.length:Int) by omega),D7 (show(ys.length:Int)<=4294967296 by omega),D7 (show(16:Int)*ys.length<=281474976710656 by omega)]at ht;rw[show(true&&true&&true&&true)=true from rfl,T7,zQ v ys.length]at ht;have ht:=ht.trans (gT @hB _ _);rw[cX]at ht;have ht:=ht.trans (bQ5 aG _ (rQ 1) _ _ gJ de1 aUt aUu aUv (cellsOf ys) (fil v ys.length ys.length) ys.length ys.length a1 a2 x y m 1 iv _ _ _);have ht:=ht.trans (cO hsum);have hok:=bJ9 1 x y;have h1:bE (bYk 1 x y) 60 (eS [21,20,19,7,0,1,2] [4,1,0,2] (told P9 (.exit 0) (atE ys.length a1 a2 m ys.length) (atH ys iv v ys.length))) 4 46 (bB 68) (gX 0 [.pointer (some ⟨0,0,none⟩),.complex .f64 a1 a2,.int .i64 m]) ⟨4,[(1,.cells (cellsOf ys) 4)]++atO iv (sl3 1 ys.length)⟩ (aU [6] [] λex e O=>some (ex,e,O))=some (.ret,[(6,.complex .f64 x y)],[]):=ht;refine fK (C:=bYk 1 x y) (n:=60) (f:=68) (fn:=Tryz.f68) (c:=bB 68) (L:=eS [21,20,19,7,0,1,2] [4,1,0,2] (told P9 (.exit 0) (atE ys.length a1 a2 m ys.length) (atH ys iv v ys.length))) (ts:=[6]) (bo:=[]) (ex:=.ret) (e':=[(6,.complex .f64 x y)]) (O:=[]) (H:=⟨4,[(1,.cells (cellsOf ys) 4)]++atO iv (sl3 1 ys.length)⟩) (args:=[.pointer (some ⟨0,0,none⟩),.complex .f64 a1 a2,.int .i64 m]) (vs:=[.complex .f64 x y]) ?_ ?_ ?_ ?_ ?_ ?_ ?_ ?_ ?_ ?_;· exact hok
 ·exact aO
 ·exact Tryz.func68
 ·exact aW1
 ·exact λa _=>dJ (gN _ _ _ _ a)
 ·exact kK rfl
 ·exact h1
 ·exact .inr rfl
 ·rfl
 ·rfl
section
variable(fi:Fi)(R:Type)(ge:aUg)(st:St)(ap:Ap)(sub:gU)(e1 e2 e3 e4:aQy)(kd:Int)(a1 a2:Nat)(m:Int)(iv:V9)(gs:HT)(K:Ex->Env->dF->Option R)
theorem bQ6:bE (atC la1 kd fi ge st ap sub e1 e2 e3 e4 [(44,bF (.complex .f64 0 0) gs)]) 60 (sV (atC la1 kd fi ge st ap sub e1 e2 e3 e4 [(44,bF (.complex .f64 0 0) gs)]) 60) 4 46 (bB 68) (gX 0 [.pointer (some ⟨0,0,none⟩),.complex .f64 a1 a2,.int .i64 m]) ⟨4,atO iv bL⟩ (aU [6] [] K) =
  gs R [.slice (some ⟨4,0,none⟩) 0 0] ⟨5,[(4,.cells [] 0)]++atO iv bL⟩ (K .ret [(6,.complex .f64 0 0)] []):=by kernel_rfl
end
theorem bC6:aD P9 68 [.pointer (some ⟨0,0,none⟩),.complex .f64 a1 a2,.int .i64 m] ⟨4,atO iv bL⟩ (.complex .f64 0 0):=by
 have hsum:aD P9 44 [.slice (some ⟨4,0,none⟩) 0 0] ⟨5,[(4,.cells [] 0)]++atO iv bL⟩ (.complex .f64 0 0):=by have:=pS (cs:=[]) (sz:=0) (o:=0) (c:=0) (zs:=[]) (f:=λ_=>(0,0)) (λi z h=>by simp at h) (by decide) ⟨rfl,λz h=>by simp at h,λk z _ h=>by simp at h⟩;exact aD.one (b:=4) this rfl (by simp) rfl
 have ht:=bQ6 aG (Ex×Env×dF) (rQ 1) rSt (rAp P9) gJ de1 aUt aUu aUv 1 a1 a2 m iv (fJ P9 44 (.complex .f64 0 0)) λex e O=>some (ex,e,O)
 rw[cO hsum]at ht;exact fK (C:=cCu 1 0 0) (H:=⟨4,atO iv bL⟩) (args:=[.pointer (some ⟨0,0,none⟩),.complex .f64 a1 a2,.int .i64 m]) (aWz 1 0 0) aO Tryz.func68 aW1 (λa _=>lN (aWz 1 0 0) aO 60 a) (kK rfl) ht (.inr rfl) (vs:=[.complex .f64 0 0]) rfl rfl
end
def bXd:List V9->Option (List (Nat×Nat))
 |[]=>some []
 |.complex .f64 a b::r=>(bXd r).bind λl=>some ((a,b)::l)
 |_=>none
theorem aXi:∀{cs:List V9}{zs:List (Nat×Nat)},bXd cs=some zs->cs=bA zs
 |[],zs,h=>by cases h;rfl
 |v::r,zs,h=>by
  unfold bXd at h;split at h;· rename_i e;cases e
  ·rename_i a b r' e;cases e;obtain⟨l,h1,h2⟩:=aB h;cases h2;rw[aXi h1];rfl
  ·cases h
def xJ(mu:gU){R:Type}:Nat->Nat->List (Nat×Nat)->(Nat->Nat->Option R)->Option R
 |a1,a2,[],k=>k a1 a2
 |a1,a2,b::r,k=>mu R a1 a2 b.1 b.2 λx y=>xJ mu x y r k
def bFv(mu:gU):vP:=λR args H k=>match args with
 |[.complex .f64 a1 a2,.slice (some ⟨b,0,none⟩) n c]=>match aCg b H.objs with
  |some (.cells cs sz)=>match bXd cs with
   |some zs=>bif N9 zs.length n&&Nat.ble 1 n&&Nat.ble n 3 then xJ mu a1 a2 zs λx y=>k (.complex .f64 x y) else none
   |none=>none
  |_=>none
 |_=>none
noncomputable def muC(mu:gU):Cx:=uC aG [(43,jH mu)] [] []
def bU8{R:Type}(t:Nat)(k:KVO R):Ex->Env->dF->Option R:=λex e O=>match ex with
 |.ret=>match rZ t e with
  |some v=>bif flat v then k v else none
  |none=>none
 |_=>none
section
variable(mu:gU)(R:Type)(a1 a2 b1 b2 c1 c2 d1 d2 c sz:Nat)(k:KVO R)
theorem cF8:bE (muC mu) 60 (sV (muC mu) 60) 1 18 (bB 62) (gX 0 [.complex .f64 a1 a2,.slice (some ⟨0,0,none⟩) 1 c]) ⟨1,[(0,.cells [.complex .f64 b1 b2] sz)]⟩ (aU [4] [] (bU8 4 k)) =
  xJ mu a1 a2 [(b1,b2)] λx y=>k (.complex .f64 x y):=by kernel_rfl
theorem cF9:bE (muC mu) 60 (sV (muC mu) 60) 1 18 (bB 62) (gX 0 [.complex .f64 a1 a2,.slice (some ⟨0,0,none⟩) 2 c]) ⟨1,[(0,.cells [.complex .f64 b1 b2,.complex .f64 c1 c2] sz)]⟩ (aU [4] [] (bU8 4 k)) =
  xJ mu a1 a2 [(b1,b2),(c1,c2)] λx y=>k (.complex .f64 x y):=by kernel_rfl
theorem cGa:bE (muC mu) 60 (sV (muC mu) 60) 1 18 (bB 62) (gX 0 [.complex .f64 a1 a2,.slice (some ⟨0,0,none⟩) 3 c]) ⟨1,[(0,.cells [.complex .f64 b1 b2,.complex .f64 c1 c2,.complex .f64 d1 d2] sz)]⟩ (aU [4] [] (bU8 4 k)) =
  xJ mu a1 a2 [(b1,b2),(c1,c2),(d1,d2)] λx y=>k (.complex .f64 x y):=by kernel_rfl
end
theorem aI6{C:Cx}(hC:C.Ok)(hmix:C.P.follows .mixedOrders=true){n:Nat}{f:FuncId}{fn:Func}{c:Code}(hf:C.P.funcs[f]?=some fn)(hb:fn.body=some c){L:qR}(hL:∀a∈fP c,LOk C.P L a){args:List V9}{H:AH}{ts bo:List Nat}{t:Nat}(hl:args.length<=fn.ntmps)(hres:fn.results.toList=[.tmp t]){R:Type}{k:V9->Option R}{r:R}(h:bE C n L H.next fn.ntmps c (gX 0 args) H (aU ts bo (bU8 t k))=some r):∃v,k v=some r/\flat v=true/\aD C.P f args H v:=by
 obtain⟨ex1,e1,H1,g1,g2⟩:=pE hC hmix c (L:=L) (n:=n) hL _ _ _ _ h;unfold aU bU8 at g1;split at g1
 ·split at g1
  ·rename_i v hv;cases hfl:flat v with
   |false=>rw[hfl]at g1;cases g1
   |true=>
    rw[hfl]at g1;refine⟨v,g1,hfl,?_⟩;have hr:aCn C.P e1 H1 fn.results.toList=some [v]:=by rw[hres];simp only[aCn,oR hv,Option.bind_some]
    exact aD1 hf hb hl @g2 (.inr rfl) hr hfl
  ·cases g1
 ·cases g1
theorem aHf:(muC dV).Ok:=aC1 (.cons k22 h22 .nil) .nil .nil
theorem aPi:Tryz.f62.body=some (bB 62):=by kernel_rfl
theorem h62:Has P9 62:=⟨Tryz.f62,_,Tryz.func62,by kernel_rfl,rfl⟩
theorem k62:aDn P9 62 (bFv dV):=by
 intro R args H k r h;unfold bFv at h;split at h
 ·rename_i a1 a2 b n c;split at h
  ·rename_i cs sz hl;split at h
   ·rename_i zs hz;have ec:=aXi hz;cases hn:(N9 zs.length n&&Nat.ble 1 n&&Nat.ble n 3) with
    |false=>rw[hn]at h;cases h
    |true=>
     rw[hn]at h;simp only[B9,Nat.ble_eq]at hn;have hn1:=gO hn.1.1;have hm:(b,qQ.cells (bA zs) sz)∈H.objs:=by rw[<-ec];exact kS hl
     have fin:∀{v:V9},aD P9 62 [.complex .f64 a1 a2,.slice (some ⟨0,0,none⟩) n c] ⟨1,[(0,.cells (bA zs) sz)]⟩ v->aD P9 62 [.complex .f64 a1 a2,.slice (some ⟨b,0,none⟩) n c] H v:=λg=>aD.one (b:=b) g (oO _) hm rfl
     have h:xJ dV a1 a2 zs (λx y=>k (.complex .f64 x y))=some r:=h
     match zs,hn1,hn.1.2,hn.2 with
     |[],e,h1,_=>subst e;exact absurd h1 (by decide)
     |[(b1,b2)],e,_,_=>have e:1=n:=e;subst e;obtain⟨v,g1,g2,g3⟩:=aI6 (args:=[.complex .f64 a1 a2,.slice (some ⟨0,0,none⟩) 1 c]) (H:=⟨1,[(0,.cells [.complex .f64 b1 b2] sz)]⟩) (ts:=[4]) (bo:=[]) (n:=60) aHf aO Tryz.func62 aPi (λa _=>lN aHf aO 60 a) (kK rfl) rfl ((cF8 dV R a1 a2 b1 b2 c sz k).trans h);exact⟨v,g1,g2,fin g3⟩
     |[(b1,b2),(c1,c2)],e,_,_=>have e:2=n:=e;subst e;obtain⟨v,g1,g2,g3⟩:=aI6 (args:=[.complex .f64 a1 a2,.slice (some ⟨0,0,none⟩) 2 c]) (H:=⟨1,[(0,.cells [.complex .f64 b1 b2,.complex .f64 c1 c2] sz)]⟩) (ts:=[4]) (bo:=[]) (n:=60) aHf aO Tryz.func62 aPi (λa _=>lN aHf aO 60 a) (kK rfl) rfl ((cF9 dV R a1 a2 b1 b2 c1 c2 c sz k).trans h);exact⟨v,g1,g2,fin g3⟩
     |[(b1,b2),(c1,c2),(d1,d2)],e,_,_=>have e:3=n:=e;subst e;obtain⟨v,g1,g2,g3⟩:=aI6 (args:=[.complex .f64 a1 a2,.slice (some ⟨0,0,none⟩) 3 c]) (H:=⟨1,[(0,.cells [.complex .f64 b1 b2,.complex .f64 c1 c2,.complex .f64 d1 d2] sz)]⟩) (ts:=[4]) (bo:=[]) (n:=60) aHf aO Tryz.func62 aPi (λa _=>lN aHf aO 60 a) (kK rfl) rfl ((cGa dV R a1 a2 b1 b2 c1 c2 d1 d2 c sz k).trans h);exact⟨v,g1,g2,fin g3⟩
     |_::_::_::_::l,e,_,h3=>exfalso;simp only[List.length_cons]at e;omega
   ·cases h
  ·cases h
 ·cases h
noncomputable def foA:Code:=sI (bB 23) 0
noncomputable def foC(lim:Nat->Bool)(fi:Fi)(st:St)(ap:Ap)(pl:aH5)(ad mu:gU)(ti:KCC)(sc:mO)(cj:KCC)(fn:KCB)(ff:KFB)(gl:List (Nat×vP)):Cx:=
 cxM fi P9 (λ_ _=>none) [(27,bI8 pl),(26,jH ad),(16,sCC ti),(15,tF sc),(64,sCC cj),(91,sCB fn),(93,sFB ff),(60,aP6)] [] ((62,bFv mu)::gl) [] (aPh lim [] st ap)
def foE(n x y:Nat)(k:Int):Env:=[(31,.int .i64 k),(30,.int .i64 n),(10,.slice (some ⟨4,0,none⟩) n n),(4,.pointer (some ⟨2,0,none⟩)),(3,.pointer (some ⟨1,0,none⟩)),(2,.int .i64 n),(6,.pointer (some ⟨3,0,none⟩)),(8,.complex .f64 x y)]
def foD(m c c1 c2 r:Nat):dF:=[(3,.cells [.complex .f64 0 0,.float .f64 0] 0),(2,.cells [.complex .f64 c1 c2,.float .f64 r] 0),(1,.cells [.slice (some ⟨0,0,none⟩) m c] 0)]
def aWc{R:Type}(fi:Fi)(pl:aH5)(ad:gU)(r c1 c2 n k:Nat)(K:Nat->Nat->Nat->Nat->Option R):Option R:=
 fi R (K9.i64.wrap (2*(k:Int))) λj=>bH (U9 .f64 j) λa=>aM (fbF .mul a 4614256656552045848) λa=>bH (U9 .f64 (n:Int)) λb=>aM (fbF .quo a b) λt=>
  pl R r t λd1 d2=>ad R c1 c2 d1 d2 λz1 z2=>K d1 d2 z1 z2
def foRd{R:Type}(fi:Fi)(st:St)(pl:aH5)(ad mu:gU)(ti:KCC)(g:bCv)(cs ts:List V9)(sz m c n k c1 c2 r x y:Nat)(K:Ex->Env->dF->Option R):Option R:=
 bif decide ((k:Int)<n) then aWc fi pl ad r c1 c2 n k λd1 d2 z1 z2=>g R (cW 0 m c) z1 z2 ⟨5,foD m c c1 c2 r++[(4,.cells ts 0),(0,.cells cs sz)]⟩ λv1 v2=>
  ti R d1 d2 λt1 t2=>xJ mu v1 v2 [(v1,v2),(t1,t2),(d1,d2)] λq1 q2=>
  bif decide (0<=(k:Int))&&decide ((k:Int)<n)&&true then
   st R ts (0+k*1) [.complex .f64 q1 q2] λts=>fi R (K9.i64.wrap (k+1)) λi=>K .normal (foE n x y i) (foD m c c1 c2 r++[(4,.cells ts 0)])
  else none
 else K (.exit 0) (foE n x y k) (foD m c c1 c2 r++[(4,.cells ts 0)])
def foZ{R:Type}(ti:KCC)(sc:mO)(cj:KCC)(fn:KCB)(ff:KFB)(n x y u1 u2:Nat)(K:Nat->Nat->Nat->Int->Option R):Option R:=
 bH (U9 .f64 (n:Int)) λb=>aM (fbF .quo 4618760256179416344 b) λq=>sc R u1 u2 q λm1 m2=>ti R x y λa b=>sc R a b 4602678819172646912 λa b=>cj R a b λa b=>
 aM (fbF .mul 13826050856027422720 m1) λm=>fn R a b λt=>bif t then ff R m λt=>bif t then K a b m 0 else K 0 0 0 6 else K 0 0 0 6
section
variable(fi:Fi)(R:Type)(st:St)(ap:Ap)(pl:aH5)(ad mu:gU)(ti:KCC)(sc:mO)(cj:KCC)(fn:KCB)(ff:KFB)(g:bCv)(cs ts:List V9)(sz m c n k c1 c2 r x y u1 u2:Nat)(e:Int)(K:Ex->Env->dF->Option R)
theorem fo_round:bE (foC aPn fi st ap pl ad mu ti sc cj fn ff [(61,bFy g)]) 60 noL 1 87 foA (foE n x y k) ⟨5,foD m c c1 c2 r++[(4,.cells ts 0),(0,.cells cs sz)]⟩ (aU [31,30,10,4,3,2,6,8] [3,2,1,4] K) =
  foRd fi st pl ad mu ti g cs ts sz m c n k c1 c2 r x y K:=by kernel_rfl
variable(L:qR)(gq gs:HT)
theorem fo_top:bE (foC aPn fi st ap pl ad mu ti sc cj fn ff [(13,bF (reV x y 0) gq),(44,bF (.complex .f64 u1 u2) gs)]) 60 (eS [31,30,10,4,3,2,6,8] [3,2,1,4,0] L) 1 87 (bB 23) (gX 0 [cW 0 m c,ciV c1 c2 r,.int .i64 n]) ⟨1,[(0,.cells cs sz)]⟩ (aU [6,7] [3] K) =
  gq R [cW 0 m c,ciV c1 c2 r,.int .i64 n] ⟨4,foD m c c1 c2 r++[(0,.cells cs sz)]⟩ (
   bif decide (0<=(n:Int))&&decide ((n:Int)<=n)&&decide ((n:Int)<=4294967296)&&decide ((16:Int)*n<=281474976710656) then
    L R 1 87 foA (foE n x y 0) ⟨5,foD m c c1 c2 r++[(4,.cells (yS n) 0),(0,.cells cs sz)]⟩
     (fS 0 (jP (λen H=>bE (foC aPn fi st ap pl ad mu ti sc cj fn ff [(13,bF (reV x y 0) gq),(44,bF (.complex .f64 u1 u2) gs)]) 60 (eS [31,30,10,4,3,2,6,8] [3,2,1,4,0] L) 1 87 (lJ 5 (bB 23)) en H (aU [6,7] [3] K)) (aU [6,7] [3] K)))
   else none):=by kernel_rfl
theorem fo_end:bE (foC aPn fi st ap pl ad mu ti sc cj fn ff [(13,bF (reV x y 0) gq),(44,bF (.complex .f64 u1 u2) gs)]) 60 L 1 87 (lJ 5 (bB 23)) (foE n x y k) ⟨5,foD m c c1 c2 r++[(4,.cells ts 0),(0,.cells cs sz)]⟩ (aU [6,7] [3] K) =
  gs R [.slice (some ⟨4,0,none⟩) n n] ⟨5,foD m c c1 c2 r++[(4,.cells ts 0),(0,.cells cs sz)]⟩ (foZ ti sc cj fn ff n x y u1 u2 λa b m e=>K .ret [(6,.pointer (some ⟨3,0,none⟩)),(7,.int .i64 e)] [(3,.cells [.complex .f64 a b,.float .f64 m] 0)]):=by kernel_rfl
end
end Go.Vm
