/- A part; no conditions. -/
import Derived.Test.YtaogignikkjkjaaGreatVmZB1
set_option maxRecDepth 1000000
set_option maxHeartbeats 1000000
set_option linter.all false
open Go.Proofs.Tryz renaming prog->P9
open Nat renaming beq->N9
open Bool renaming and_eq_true->B9
open Go renaming Value->V9
namespace Go.Vm
open Go.Proofs
theorem cEy(R:Type)(cs:List V9)(n c:Nat)(cx:List V9)(off m:Nat)(k:List V9->Option R):rAp P9 R 68 cs n c cx off m k =
  bif true&&true&&N9 c n&&Nat.blt 0 m&&Nat.ble ((n+m)*8) 140737488355328&&Nat.ble (n+m) 1099511627776&&N9 cs.length (n*1)&&N9 ((cx.drop off).take (m*1)).length (m*1)&&mK ((cx.drop off).take (m*1)) then
   k (cs++(cx.drop off).take (m*1)) else none:=by kernel_rfl
theorem bC5{R:Type}{cs:List V9}{n:Nat}{x:Int}{k:List V9->Option R}(h1:cs.length=n)(hn:n<1000000):rAp P9 R 68 cs n n [.int .i64 x] 0 1 k=k (cs++[.int .i64 x]):=by rw[cEy,h1,iJ (show(n+1)*8<=140737488355328 by omega),iJ (show n+1<=1099511627776 by omega),Nat.mul_one,Nat.beq_refl];rfl
def wF(js:List Nat):List V9:=js.map λ(j:Nat)=>.int .i64 (j:Int)
theorem bEh(js:List Nat):(wF js).length=js.length:=by unfold wF;simp
theorem bEg(a b:List Nat):wF (a++b)=wF a++wF b:=by unfold wF;simp
theorem oT:∀(js:List Nat),kZ 0 (wF js)=true
 |[]=>rfl
 |j::r=>oT r
def tH{c1 c2 r:Nat}(S:jO c1 c2 r)(x:El):Int:=bif x.kind==1 then 0 else bif ltF (S.lw x) r then -1 else 1
def aDw{c1 c2 r:Nat}(S:jO c1 c2 r)(w:Int)(xs:List El)(i:Nat):Bool:=match xs[i]? with|some x=>tH S x==w|none=>false
def lP{c1 c2 r:Nat}(S:jO c1 c2 r)(w:Int)(xs:List El)(k:Nat):List Nat:=(List.range k).filter (aDw S w xs)
def thS(js:List Nat):V9:=match js with | []=>bL|_::_=>sl3 3 js.length
def thH(D:dF)(cs:List V9)(sz:Nat)(js:List Nat):AH:=match js with | []=>⟨3,D++[(0,.cells cs sz)]⟩|_::_=>⟨4,D++[(3,.cells (wF js) 1),(0,.cells cs sz)]⟩
noncomputable def thR(lim:Nat->Bool)(gl:List (Nat×vP)):Cx:=thC lim aG rEl rSt (rAp P9) (siC (aGb gJ cQ)) gl
theorem aFy(lim:Nat->Bool){gl:List (Nat×vP)}(hg:aWj P9 gl):(thR lim gl).Ok:=lS jR (.cons cD2 cC9 .nil) lY hg .nil (jX bXy)
theorem uN:fP thA=[]:=by kernel_rfl
theorem bGb:Tryz.f82.body=some (bB 82):=by kernel_rfl
section
variable{cs:List V9}{sz o n c c1 c2 r:Nat}{w:Int}{xs:List El}(S:jO c1 c2 r)
theorem aTw{x:El}(hs:aC2 c1 c2 S.lw x)(R:Type)(k:KIO R):siC (aGb gJ cQ) R x.kind x.a1 x.a2 c1 c2 r k=k (tH S x):=by
 unfold siC tH;rw[hs];cases x.kind==1 with
 |true=>rfl
 |false=>cases ltF (S.lw x) r<;>rfl
theorem aVv{k:Nat}{x:El}(hk:xs[k]?=some x):lP S w xs (k+1)=bif tH S x==w then lP S w xs k++[k] else lP S w xs k:=by
 unfold lP;rw[List.range_succ,List.filter_append];have:aDw S w xs k=(tH S x==w):=by unfold aDw;rw[hk]
 cases h:tH S x==w with
 |true=>rw[List.filter_cons_of_pos (by rw[this,h]),List.filter_nil];rfl
 |false=>rw[List.filter_cons_of_neg (by rw[this,h];simp),List.filter_nil,List.append_nil];rfl
theorem aM6(k:Nat):(lP S w xs k).length<=k:=by unfold lP;have:=List.length_filter_le (aDw S w xs) (List.range k);rw[List.length_range]at this;exact this
theorem bPc(hx:uP cs o xs)(hn:xs.length<900000){k:Nat}{x:El}(hk:xs[k]?=some x)(hs:aC2 c1 c2 S.lw x):
  cI P9 1 37 ⟨3,clD o xs.length c c1 c2 r++[(0,.cells cs sz)]⟩ (thE o xs.length c w (thS (lP S w xs k)) k) (thH (clD o xs.length c c1 c2 r) cs sz (lP S w xs k)) .normal
   (thE o xs.length c w (thS (lP S w xs (k+1))) (k+1:Nat)) (thH (clD o xs.length c c1 c2 r) cs sz (lP S w xs (k+1))) (λQ a w=>thA.wp P9 Q a w):=by
 have hkn:=(List.getElem?_eq_some_iff.1 hk).1;have hl:=aM6 (xs:=xs) (w:=w) S k;rw[aVv S hk];generalize lP S w xs k=js at hl;cases js with
 |nil=>
  cases hb:tH S x==w with
  |true=>
   show cI P9 1 37 _ (thE o xs.length c w bL k) ⟨3,clD o xs.length c c1 c2 r++[(0,.cells cs sz)]⟩ _ (thE o xs.length c w (sl3 3 1) (k+1:Nat)) ⟨4,clD o xs.length c c1 c2 r++[(3,.cells [.int .i64 (k:Int)] 1),(0,.cells cs sz)]⟩ _;exact bK (C:=thR la0 []) (H0:=⟨3,clD o xs.length c c1 c2 r++[(0,.cells cs sz)]⟩) (e:=thE o xs.length c w bL k) (H:=⟨3,clD o xs.length c c1 c2 r++[(0,.cells cs sz)]⟩) (n:=60) (ts:=[21,20,19,4,2,9]) (bo:=[2,1,5]) (bs:=[5])
    (A:=clD o xs.length c c1 c2 r++[(3,.cells [.int .i64 (k:Int)] 1)]) (B:=[(0,.cells cs sz)]) (D:=clD o xs.length c c1 c2 r) (aFy _ .nil) aO uN
    (by unfold thR;refine(bB5 aG _ _ _ _ _ cs sz o xs.length c k c1 c2 r w _).trans ?_;rw[D7 (show(k:Int)<xs.length by omega),T7,jN,T7,uH hx hk,aTw S hs,hb,T7,aI,fN (by omega)]) rfl
    rfl rfl rfl rfl rfl rfl
  |false=>
   show cI P9 1 37 _ (thE o xs.length c w bL k) ⟨3,clD o xs.length c c1 c2 r++[(0,.cells cs sz)]⟩ _ (thE o xs.length c w bL (k+1:Nat)) ⟨3,clD o xs.length c c1 c2 r++[(0,.cells cs sz)]⟩ _;exact bK (C:=thR la0 []) (H0:=⟨3,clD o xs.length c c1 c2 r++[(0,.cells cs sz)]⟩) (e:=thE o xs.length c w bL k) (H:=⟨3,clD o xs.length c c1 c2 r++[(0,.cells cs sz)]⟩) (n:=60) (ts:=[21,20,19,4,2,9]) (bo:=[2,1,5]) (bs:=[])
    (A:=clD o xs.length c c1 c2 r) (B:=[(0,.cells cs sz)]) (D:=clD o xs.length c c1 c2 r) (aFy _ .nil) aO uN
    (by unfold thR;refine(bB5 aG _ _ _ _ _ cs sz o xs.length c k c1 c2 r w _).trans ?_;rw[D7 (show(k:Int)<xs.length by omega),T7,jN,T7,uH hx hk,aTw S hs,hb,F7,aI,fN (by omega)]) rfl
    rfl rfl rfl rfl rfl rfl
 |cons j0 js=>
  cases hb:tH S x==w with
  |true=>
   show cI P9 1 37 _ (thE o xs.length c w (sl3 3 (j0::js).length) k) ⟨4,clD o xs.length c c1 c2 r++[(3,.cells (wF (j0::js)) 1),(0,.cells cs sz)]⟩ _
    (thE o xs.length c w (sl3 3 ((j0::js)++[k]).length) (k+1:Nat)) ⟨4,clD o xs.length c c1 c2 r++[(3,.cells (wF ((j0::js)++[k])) 1),(0,.cells cs sz)]⟩ _
   rw[bEg,List.length_append];have hf:kZ 0 (wF (j0::js)++wF [k])=true:=tC (oT _) (oT _);exact bK (C:=thR oa3 []) (H0:=⟨3,clD o xs.length c c1 c2 r++[(0,.cells cs sz)]⟩) (e:=thE o xs.length c w (sl3 3 (j0::js).length) k) (H:=⟨4,clD o xs.length c c1 c2 r++[(3,.cells (wF (j0::js)) 1),(0,.cells cs sz)]⟩) (n:=60) (ts:=[21,20,19,4,2,9]) (bo:=[2,1,6]) (bs:=[6])
    (A:=clD o xs.length c c1 c2 r++[(3,.cells (wF (j0::js)++wF [k]) 1)]) (B:=[(0,.cells cs sz)]) (D:=clD o xs.length c c1 c2 r) (O1:=clD o xs.length c c1 c2 r++[(6,.cells (wF (j0::js)++wF [k]) 1)]) (aFy _ .nil) aO uN
    (by
     unfold thR;refine(bPb aG _ _ _ _ _ cs _ sz o xs.length c _ k c1 c2 r w _).trans ?_;rw[D7 (show(k:Int)<xs.length by omega),T7,jN,T7,uH hx hk,aTw S hs,hb,T7,bC5 (bEh _) (by omega),aI,fN (by omega)];rfl) rfl
    (by simp only[clD,List.cons_append,List.nil_append,fD,pN,qJ,nH];rw[bQ hf];rfl) rfl rfl rfl rfl rfl
  |false=>
   show cI P9 1 37 _ (thE o xs.length c w (sl3 3 (j0::js).length) k) ⟨4,clD o xs.length c c1 c2 r++[(3,.cells (wF (j0::js)) 1),(0,.cells cs sz)]⟩ _
    (thE o xs.length c w (sl3 3 (j0::js).length) (k+1:Nat)) ⟨4,clD o xs.length c c1 c2 r++[(3,.cells (wF (j0::js)) 1),(0,.cells cs sz)]⟩ _
   exact bK (C:=thR oa3 []) (H0:=⟨3,clD o xs.length c c1 c2 r++[(0,.cells cs sz)]⟩) (e:=thE o xs.length c w (sl3 3 (j0::js).length) k) (H:=⟨4,clD o xs.length c c1 c2 r++[(3,.cells (wF (j0::js)) 1),(0,.cells cs sz)]⟩) (n:=60) (ts:=[21,20,19,4,2,9]) (bo:=[2,1,3]) (bs:=[3])
    (A:=clD o xs.length c c1 c2 r++[(3,.cells (wF (j0::js)) 1)]) (B:=[(0,.cells cs sz)]) (D:=clD o xs.length c c1 c2 r) (O1:=clD o xs.length c c1 c2 r++[(3,.cells (wF (j0::js)) 1)]) (aFy _ .nil) aO uN
    (by
     unfold thR;refine(bB4 aG _ _ _ _ _ cs _ sz o xs.length c _ k c1 c2 r w _).trans ?_;rw[D7 (show(k:Int)<xs.length by omega),T7,jN,T7,uH hx hk,aTw S hs,hb,F7,aI,fN (by omega)]) rfl
    (by simp only[clD,List.cons_append,List.nil_append,fD,pN,qJ,nH];rw[bQ (oT _)];rfl) rfl rfl rfl rfl rfl
theorem bO9(js:List Nat):
  cI P9 1 37 ⟨3,clD o n c c1 c2 r++[(0,.cells cs sz)]⟩ (thE o n c w (thS js) n) (thH (clD o n c c1 c2 r) cs sz js) (.exit 0) (thE o n c w (thS js) n) (thH (clD o n c c1 c2 r) cs sz js) (λQ a w=>thA.wp P9 Q a w):=by
 cases js with
 |nil=>
  exact bK (C:=thR la0 []) (H0:=⟨3,clD o n c c1 c2 r++[(0,.cells cs sz)]⟩) (e:=thE o n c w bL n) (H:=⟨3,clD o n c c1 c2 r++[(0,.cells cs sz)]⟩) (n:=60) (ts:=[21,20,19,4,2,9]) (bo:=[2,1,5]) (bs:=[])
    (A:=clD o n c c1 c2 r) (B:=[(0,.cells cs sz)]) (D:=clD o n c c1 c2 r) (aFy _ .nil) aO uN
    (by unfold thR;refine(bB5 aG _ _ _ _ _ cs sz o n c n c1 c2 r w _).trans ?_;rw[E7 (by omega)];rfl) rfl
    rfl rfl rfl rfl rfl rfl
 |cons j0 js=>
  exact bK (C:=thR oa3 []) (H0:=⟨3,clD o n c c1 c2 r++[(0,.cells cs sz)]⟩) (e:=thE o n c w (sl3 3 (j0::js).length) n) (H:=⟨4,clD o n c c1 c2 r++[(3,.cells (wF (j0::js)) 1),(0,.cells cs sz)]⟩) (n:=60) (ts:=[21,20,19,4,2,9]) (bo:=[2,1,3]) (bs:=[3])
    (A:=clD o n c c1 c2 r++[(3,.cells (wF (j0::js)) 1)]) (B:=[(0,.cells cs sz)]) (D:=clD o n c c1 c2 r) (O1:=clD o n c c1 c2 r++[(3,.cells (wF (j0::js)) 1)]) (aFy _ .nil) aO uN
    (by
     unfold thR;refine(bB4 aG _ _ _ _ _ cs _ sz o n c _ n c1 c2 r w _).trans ?_;rw[E7 (by omega)];rfl) rfl
    (by simp only[clD,List.cons_append,List.nil_append,fD,pN,qJ,nH];rw[bQ (oT _)];rfl) rfl rfl rfl rfl rfl
def cEr(v:V9)(e:Int):V9:=.tuple ⟨[v,.int .i64 e]⟩
theorem aT9(hx:uP cs o xs)(hn:xs.length<900000)(hs:∀x∈xs,aC2 c1 c2 S.lw x)(hf:kZ 0 cs=true)(hc:aD P9 38 [cW o xs.length c,ciV c1 c2 r,.bool false] ⟨1,[(0,.cells cs sz)]⟩ (.int .i64 0)):
  ∃H',(∀j0 js,lP S w xs xs.length=j0::js->(3,.cells (wF (j0::js)) 1)∈H'.objs)/\∀ρ W args',Inv ρ ⟨1,[(0,.cells cs sz)]⟩ W->cF ρ [cW o xs.length c,ciV c1 c2 r,.int .i64 w] args'->
   Calls P9 82 ⟨args'⟩ W λen w'=>∃ρ' v',en=.returned v'/\dW ρ' (cEr (thS (lP S w xs xs.length)) 0) v'/\Next 1 ρ ⟨1,[(0,.cells cs sz)]⟩ W ρ' H' w':=by
 have hc':aD P9 38 [cW o xs.length c,ciV c1 c2 r,.bool false] ⟨3,clD o xs.length c c1 c2 r++[(0,.cells cs sz)]⟩ (.int .i64 0):=aD.one hc hf (by simp) rfl;have hB:dH P9 1 37 ⟨3,clD o xs.length c c1 c2 r++[(0,.cells cs sz)]⟩ thA (thE o xs.length c w bL (0:Nat)) ⟨3,clD o xs.length c c1 c2 r++[(0,.cells cs sz)]⟩ (.exit 0) (thE o xs.length c w (thS (lP S w xs xs.length)) xs.length) (thH (clD o xs.length c c1 c2 r) cs sz (lP S w xs xs.length)):=
  fQ (P:=P9) (lo:=1) (sz:=37) (a:=thA) (H0:=⟨3,clD o xs.length c c1 c2 r++[(0,.cells cs sz)]⟩) (E:=λk:Nat=>thE o xs.length c w (thS (lP S w xs k)) k) (H:=λk=>thH (clD o xs.length c c1 c2 r) cs sz (lP S w xs k)) (ex:=.exit 0)
   (e':=thE o xs.length c w (thS (lP S w xs xs.length)) xs.length) (H':=thH (clD o xs.length c c1 c2 r) cs sz (lP S w xs xs.length)) xs.length 0 (λk _ hk=>by have hk':=List.getElem?_eq_getElem (show k<xs.length by omega);exact bPc S hx hn hk' (hs _ (List.getElem_mem _))) (gY (by intro h;cases h) (by simp only[Nat.zero_add];exact bO9 _))
 have hB':=@gG _ _ _ _ _ _ _ _ _ hB;have h:=bPd (told P9 (.exit 0) (thE o xs.length c w (thS (lP S w xs xs.length)) xs.length) (thH (clD o xs.length c c1 c2 r) cs sz (lP S w xs xs.length))) aG (Ex×Env×dF) rEl rSt (rAp P9) (siC (aGb gJ cQ)) (fJ P9 38 (.int .i64 0)) cs sz o xs.length c c1 c2 r w λex e O=>some (ex,e,O)
 rw[cO hc']at h;have h:=h.trans (gT @hB' _ _);rw[cX]at h;generalize lP S w xs xs.length=js at h;have key:∀nx O,thH (clD o xs.length c c1 c2 r) cs sz js=⟨nx,O⟩->∃H',(∀x,x∈vL [3] O->x∈H'.objs)/\∀ρ W args',Inv ρ ⟨1,[(0,.cells cs sz)]⟩ W->cF ρ [cW o xs.length c,ciV c1 c2 r,.int .i64 w] args'->
   Calls P9 82 ⟨args'⟩ W λen w'=>∃ρ' v',en=.returned v'/\dW ρ' (cEr (thS js) 0) v'/\Next 1 ρ ⟨1,[(0,.cells cs sz)]⟩ W ρ' H' w':=by
  intro nx O e;rw[e,bO8]at h;exact aI5 (C:=thR la0 [(38,bF (.int .i64 0) (fJ P9 38 (.int .i64 0)))]) (args:=[cW o xs.length c,ciV c1 c2 r,.int .i64 w]) (H:=⟨1,[(0,.cells cs sz)]⟩) (aFy _ (.cons (gL rfl) cC8 .nil)) aO Tryz.func82 bGb (λa _=>dJ (gN _ _ _ _ a)) (kK rfl) h (.inr rfl) (vs:=[thS js,.int .i64 0]) rfl
 obtain⟨H',hO,g⟩:=key (thH (clD o xs.length c c1 c2 r) cs sz js).next (thH (clD o xs.length c c1 c2 r) cs sz js).objs rfl;refine⟨H',λj0 js' e=>?_,g⟩;subst e;exact hO _ (by show _∈[_];exact List.mem_cons_self)
end
theorem cEz(R:Type)(cs:List V9)(n c:Nat)(cx:List V9)(off m:Nat)(k:List V9->Option R):rAp P9 R 82 cs n c cx off m k =
  bif true&&true&&N9 c n&&Nat.blt 0 m&&Nat.ble ((n+m)*16) 140737488355328&&Nat.ble (n+m) 1099511627776&&N9 cs.length (n*1)&&N9 ((cx.drop off).take (m*1)).length (m*1)&&mK ((cx.drop off).take (m*1)) then
   k (cs++(cx.drop off).take (m*1)) else none:=by kernel_rfl
theorem zB{R:Type}{cs:List V9}{n a b:Nat}{k:List V9->Option R}(h1:cs.length=n)(hn:n<1000000):rAp P9 R 82 cs n n [.complex .f64 a b] 0 1 k=k (cs++[.complex .f64 a b]):=by rw[cEz,h1,iJ (show(n+1)*16<=140737488355328 by omega),iJ (show n+1<=1099511627776 by omega),Nat.mul_one,Nat.beq_refl];rfl
theorem aRc(zs:List (Nat×Nat)):(bA zs).length=zs.length:=by unfold bA;simp
theorem aXh(a b:List (Nat×Nat)):bA (a++b)=bA a++bA b:=by unfold bA;simp
theorem jW:∀(zs:List (Nat×Nat)),kZ 0 (bA zs)=true
 |[]=>rfl
 |z::r=>jW r
theorem cC1:Has P9 37:=⟨Tryz.f37,_,Tryz.func37,by kernel_rfl,rfl⟩
def reH:KCC:=λR a b k=>eQ R a b 4594902181429758083 k
theorem bGy(sc:mO)(R:Type)(a b:Nat)(k:KVO R):fC (cx P9 [(15,tF sc),(70,sPi)]) 60 37 [.complex .f64 a b] k=sc R a b 4594902181429758083 λx y=>k (.complex .f64 x y):=by kernel_rfl
theorem cDv:cH P9 37 (sCC reH):=dL aO (.cons k39 h39 (.cons bMi bL5 .nil)) (n:=60) λR args k r hr=>by
 unfold sCC at hr;split at hr;· exact⟨rfl,(bGy eQ R _ _ k).trans hr⟩
 ·cases hr
noncomputable def akC(fi:Fi)(st:St)(ap:Ap)(wi:aNo)(gl:List (Nat×vP))(ml:List (Nat×aDo)):Cx:=
 cxM fi P9 (λ_ _=>none) [(92,aP3 wi)] [] gl ml (aPh la0 [] st ap)
section
variable(fi:Fi)(R:Type)(st:St)(ap:Ap)(wi:aNo)(gc:HT)(mt:MT)(ms:aDo)(cs os:List V9)(sz o n c c1 c2 r x y:Nat)(e:Int)(K:Ex->Env->dF->Option R)
theorem bYj:bE (akC fi st ap wi [(34,bF (.int .i64 0) gc)] []) 60 noL 1 26 (bB 85) (gX 0 [cW o n c,ciV c1 c2 r]) ⟨1,[(0,.cells cs sz)]⟩ (aU [4] [] K) =
  gc R [cW o n c] ⟨3,[(2,.cells [.complex .f64 c1 c2,.float .f64 r] 0),(1,.cells [.slice (some ⟨0,o,none⟩) n c] 0),(0,.cells cs sz)]⟩ (wi R c1 c2 4787326403894837248 λt=>bif t then
   (bif geF r 4427038433705197568 then bif leF r 4787326403894837248 then K .ret [(4,.int .i64 0)] [] else K .ret [(4,.int .i64 5)] [] else K .ret [(4,.int .i64 5)] []) else K .ret [(4,.int .i64 5)] []):=by kernel_rfl
end
theorem aYu:Has P9 92:=⟨Tryz.f92,_,Tryz.func92,by kernel_rfl,rfl⟩
noncomputable def akR(gl:List (Nat×vP))(ml:List (Nat×aDo)):Cx:=akC aG rSt (rAp P9) jQ gl ml
theorem aWs{gl:List (Nat×vP)}(hg:aWj P9 gl){ml:List (Nat×aDo)}(hm:bJy P9 ml):(akR gl ml).Ok:=lS jR (.cons bIb aYu .nil) lY hg hm (jX .nil)
theorem bJ7:Tryz.f85.body=some (bB 85):=by kernel_rfl
structure bQw(c1 c2 r:Nat):Prop where
 within:∀(R:Type)(k:KBO R),jQ R c1 c2 4787326403894837248 k=k true
 lo:geF r 4427038433705197568=true
 hi:leF r 4787326403894837248=true
section
variable{cs:List V9}{sz o n c c1 c2 r:Nat}
theorem aGz(hf:kZ 0 cs=true)(hc:aD P9 34 [cW o n c] ⟨1,[(0,.cells cs sz)]⟩ (.int .i64 0))(hr:bQw c1 c2 r):aD P9 85 [cW o n c,ciV c1 c2 r] ⟨1,[(0,.cells cs sz)]⟩ (.int .i64 0):=by
 have hc':aD P9 34 [cW o n c] ⟨3,[(2,.cells [.complex .f64 c1 c2,.float .f64 r] 0),(1,.cells [.slice (some ⟨0,o,none⟩) n c] 0),(0,.cells cs sz)]⟩ (.int .i64 0):=aD.one hc hf (by simp) rfl;have h:=bYj aG (Ex×Env×dF) rSt (rAp P9) jQ (fJ P9 34 (.int .i64 0)) cs sz o n c c1 c2 r λex e O=>some (ex,e,O)
 rw[cO hc',hr.within,T7,hr.lo,T7,hr.hi,T7]at h;exact fK (C:=akR [(34,bF (.int .i64 0) (fJ P9 34 (.int .i64 0)))] []) (args:=[cW o n c,ciV c1 c2 r]) (H:=⟨1,[(0,.cells cs sz)]⟩) (aWs (.cons (gL rfl) cC0 .nil) .nil) aO (L:=noL) Tryz.func85 bJ7 (λa _=>qU) (kK rfl) h (.inr rfl) (vs:=[.int .i64 0]) rfl rfl
def reV(x y:Nat)(e:Int):V9:=.tuple ⟨[.complex .f64 x y,.int .i64 e]⟩
end
def aTs:Sum:=λR args k=>match args with | []=>k (.bool true)|_=>none
def bVe:Sum:=λR args k=>match args with
 |[]=>k (.tuple ⟨[.float .f64 4614256656552045848,.float .f64 4368955796522032135]⟩)
 |_=>none
def bFx(g:yY):Sum:=λR args k=>match args with
 |[.float .f64 a,.int .i64 0]=>g R a 0 0 (k (.bool false))
 |_=>none
def bFw(g:KF1):Sum:=λR args k=>match args with
 |[.float .f64 a]=>g R a (k (.bool false))
 |_=>none
def aP5:Sum:=λR args k=>match args with
 |[.float .f64 a]=>bif N9 a 4652007308841189376 then k (.tuple ⟨[.float .f64 4606971312567484416,.int .i64 10]⟩) else none
 |_=>none
def bVd:Sum:=λR args k=>none
theorem bP6(R:Type)(a b:Nat)(k:KVO R):fC (cx P9 []) 60 64 [.complex .f64 a b] k=jK R a b λx y=>k (.complex .f64 x y):=by kernel_rfl
theorem bG5(R:Type)(a b:Nat)(k:KVO R):fC (cx P9 []) 60 16 [.complex .f64 a b] k=jV R a b λx y=>k (.complex .f64 x y):=by kernel_rfl
theorem bG6(fi:Fi)(R:Type)(n:Int)(k:KVO R):fC (cxf fi P9 [] []) 60 19 [.int .i64 n] k=aQt fi R n λx=>k (.float .f64 x):=by kernel_rfl
theorem bP7(ab:KFF)(R:Type)(a b r:Nat)(k:KVO R):fC (cx P9 [(21,sFF ab)]) 60 30 [.float .f64 a,.float .f64 b,.float .f64 r] k=aSt ab R a b r λt=>k (.bool t):=by kernel_rfl
theorem cCn(R:Type)(k:KVO R):fC (cx P9 []) 60 25 [] k=k (.tuple ⟨[.float .f64 4614256656552045848,.float .f64 4368955796522032135]⟩):=by kernel_rfl
theorem bW4(n2:yY)(n1:KF1)(R:Type)(x:Nat)(k:KVO R):fC (cx P9 [(21,sFF kO),(73,bFx n2),(75,bFw n1),(94,aP5),(95,bVd)]) 60 20 [.float .f64 x,.float .f64 4652007308841189376] k =
 cAd n2 n1 R x λy=>k (.float .f64 y):=by kernel_rfl
def bK5:List V9:=[.int .u8 1,.complex .f64 0 0,.complex .f64 4607182418800017408 0,.float .f64 0,.int .u8 3,.complex .f64 0 0,.complex .f64 4616189618054758400 0,.float .f64 4607182418800017408,.int .u8 2,.complex .f64 0 0,.complex .f64 0 13842132293034192152,.float .f64 0]
def bAh:List (Nat×Nat×Nat):=[(0,4613937818241073152,0),(4591738658415193368,4613905289146325980,4598968779397875489),(4596242258042563864,4613808015135049092,4603446871754488968),(4598977298231927250,4613646933009146468,4606019175331163784),(4600745857669934360,4613423594077546996,4607849178062847754),(4602514417107941470,4613140149216251461,4609047765677586604),(4603480897859297746,4612799328154220858,4610185016855862572),(4604365177578301301,4612404413184594289,4611249979247144129),(4605249457297304856,4611959207554411738,4611959207554411737),(4606133737016308411,4611249979247144130,4612404413184594288),(4607018016735311966,4610185016855862574,4612799328154220858),(4607542357627166464,4609047765677586606,4613140149216251460),(4607984497486668242,4607849178062847755,4613423594077546996),(4608426637346170020,4606019175331163782,4613646933009146468),(4608868777205671797,4603446871754488969,4613808015135049092),(4609310917065173574,4598968779397875498,4613905289146325980)]
def bAi:List (Nat×Nat×Nat):=[(4609753056924675352,4371439675322042880,4613937818241073152),(4610195196784177130,13822340816252651300,4613905289146325980),(4610637336643678907,13826818908609264774,4613808015135049092),(4611079476503180684,13829391212185939587,4613646933009146468),(4611521616362682462,13831221214917623562,4613423594077546996),(4611824887324786072,13832419802532362413,4613140149216251461),(4612045957254536960,13833557053710638377,4612799328154220860),(4612267027184287849,13834622016101919934,4612404413184594290),(4612488097114038738,13835331244409187545,4611959207554411738),(4612709167043789627,13835776450039370097,4611249979247144129),(4612930236973540516,13836171365008996667,4610185016855862572),(4613151306903291404,13836512186071027268,4609047765677586606),(4613372376833042293,13836795630932322804,4607849178062847756),(4613593446762793182,13837018969863922276,4606019175331163784),(4613814516692544070,13837180051989824900,4603446871754488976),(4614035586622294959,13837277326001101788,4598968779397875502)]
def bAj:List (Nat×Nat×Nat):=[(4614256656552045848,13837309855095848960,4375943274949413376),(4614477726481796737,13837277326001101788,13822340816252651296),(4614698796411547626,13837180051989824900,13826818908609264778),(4614919866341298514,13837018969863922276,13829391212185939586),(4615140936271049403,13836795630932322804,13831221214917623561),(4615362006200800292,13836512186071027269,13832419802532362412),(4615583076130551180,13836171365008996668,13833557053710638377),(4615804146060302069,13835776450039370098,13834622016101919934),(4616025215990052958,13835331244409187546,13835331244409187545),(4616217951987281123,13834622016101919943,13835776450039370094),(4616328486952156568,13833557053710638380,13836171365008996666),(4616439021917032012,13832419802532362415,13836512186071027268),(4616549556881907456,13831221214917623570,13836795630932322803),(4616660091846782901,13829391212185939593,13837018969863922276),(4616770626811658345,13826818908609264787,13837180051989824899),(4616881161776533790,13822340816252651289,13837277326001101788)]
def bAk:List (Nat×Nat×Nat):=[(4616991696741409234,13601956002331551616,13837309855095848960),(4617102231706284678,4598968779397875461,13837277326001101788),(4617212766671160123,4603446871754488968,13837180051989824900),(4617323301636035567,4606019175331163776,13837018969863922276),(4617433836600911012,4607849178062847757,13836795630932322804),(4617544371565786456,4609047765677586604,13836512186071027269),(4617654906530661900,4610185016855862568,13836171365008996668),(4617765441495537345,4611249979247144130,13835776450039370096),(4617875976460412789,4611959207554411737,13835331244409187546),(4617986511425288233,4612404413184594286,13834622016101919943),(4618097046390163678,4612799328154220858,13833557053710638380),(4618207581355039122,4613140149216251460,13832419802532362416),(4618318116319914566,4613423594077546995,13831221214917623570),(4618428651284790011,4613646933009146468,13829391212185939594),(4618539186249665455,4613808015135049091,13826818908609264788),(4618649721214540900,4613905289146325980,13822340816252651292)]
def bBh:List (Nat×Nat×Nat×Nat):=[(4613937818241073152,0,4603179219131243634,13823048456275842389),(4613905289146325980,4598968779397875489,4602961852852592915,13821367884599956070),(4613808015135049092,4603446871754488968,4602898205427124406,13818191062315499896),(4613646933009146468,4606019175331163784,4602982329280576026,13813228928345740276),(4613423594077546996,4607849178062847754,4603202760525516877,4573924768180132608),(4613140149216251461,4609047765677586604,4603543038781670613,4590109690195741688),(4612799328154220858,4610185016855862572,4603982416680724789,4593976300614984610),(4612404413184594289,4611249979247144129,4604496731048764315,4595589591956547926),(4611959207554411738,4611959207554411737,4605059401575842150,4596688750068929489),(4611249979247144130,4612404413184594288,4605642517919348060,4597254328574020408),(4610185016855862574,4612799328154220858,4606217972832282790,4597289741526265713),(4609047765677586606,4613140149216251460,4606758597187829136,4596820890014626841),(4607849178062847755,4613423594077546996,4607210835776683226,4595894904250402718),(4606019175331163782,4613646933009146468,4607410129525160121,4594578052010248486),(4603446871754488969,4613808015135049092,4607559301178167282,4592234173105822431),(4598968779397875498,4613905289146325980,4607651587266773040,4587948003030991991)]
def bBi:List (Nat×Nat×Nat×Nat):=[(4371439675322042880,4613937818241073152,4607682818758614130,4360500570333960192),(13822340816252651300,4613905289146325980,4607651587266773040,13811320039885767792),(13826818908609264774,4613808015135049092,4607559301178167282,13815606209960598238),(13829391212185939587,4613646933009146468,4607410129525160121,13817950088865024294),(13831221214917623562,4613423594077546996,4607210835776683226,13819266941105178526),(13832419802532362413,4613140149216251461,4606758597187829136,13820192926869402647),(13833557053710638377,4612799328154220860,4606217972832282792,13820661778381041518),(13834622016101919934,4612404413184594290,4605642517919348064,13820626365428796218),(13835331244409187545,4611959207554411738,4605059401575842150,13820060786923705299),(13835776450039370097,4611249979247144129,4604496731048764315,13818961628811323734),(13836171365008996667,4610185016855862572,4603982416680724789,13817348337469760416),(13836512186071027268,4609047765677586606,4603543038781670615,13813481727050517504),(13836795630932322804,4607849178062847756,4603202760525516878,13797296805034908480),(13837018969863922276,4606019175331163784,4602982329280576026,4589856891490964468),(13837180051989824900,4603446871754488976,4602898205427124405,4594819025460724079),(13837277326001101788,4598968779397875502,4602961852852592914,4597995847745180253)]
def bBj:List (Nat×Nat×Nat×Nat):=[(13837309855095848960,4375943274949413376,4603179219131243634,4599676419421066579),(13837277326001101788,13822340816252651296,4603550426128145089,4601209475695132073),(13837180051989824900,13826818908609264778,4604069683695838306,4602624955261756805),(13837018969863922276,13829391212185939586,4604725430566328772,4603272395544360637),(13836795630932322804,13831221214917623561,4605500697810050584,4603779764856412133),(13836512186071027269,13832419802532362412,4606373681672754921,4604151638606834336),(13836171365008996668,13833557053710638377,4607250461669974577,4604370097941236222),(13835776450039370098,13834622016101919934,4607744277163168019,4604422385248070102),(13835331244409187546,13835331244409187545,4608243927412105036,4604301436438225448),(13834622016101919943,13835776450039370094,4608733354752828012,4604006201093701983),(13833557053710638380,13836171365008996666,4609196599973573855,4603541737713415949),(13832419802532362415,13836512186071027268,4609618388178916183,4602919079867383579),(13831221214917623570,13836795630932322803,4609984691455585264,4601630936466906991),(13829391212185939593,13837018969863922276,4610283246951439703,4599862838349267948),(13826818908609264787,13837180051989824899,4610504010660403586,4597638809586719797),(13822340816252651289,13837277326001101788,4610639529642910183,4593266597865181082)]
def bBk:List (Nat×Nat×Nat×Nat):=[(13601956002331551616,13837309855095848960,4610685218510194460,4373045416349400832),(4598968779397875461,13837277326001101788,4610639529642910184,13816638634719956860),(4603446871754488968,13837180051989824900,4610504010660403586,13821010846441495585),(4606019175331163776,13837018969863922276,4610283246951439703,13823234875204043752),(4607849178062847757,13836795630932322804,4609984691455585266,13825002973321682794),(4609047765677586604,13836512186071027269,4609618388178916184,13826291116722159385),(4610185016855862568,13836171365008996668,4609196599973573857,13826913774568191754),(4611249979247144130,13835776450039370096,4608733354752828014,13827378237948477789),(4611959207554411737,13835331244409187546,4608243927412105037,13827673473293001255),(4612404413184594286,13834622016101919943,4607744277163168024,13827794422102845910),(4612799328154220858,13833557053710638380,4607250461669974579,13827742134796012032),(4613140149216251460,13832419802532362416,4606373681672754924,13827523675461610144),(4613423594077546995,13831221214917623570,4605500697810050590,13827151801711187942),(4613646933009146468,13829391212185939594,4604725430566328774,13826644432399136447),(4613808015135049091,13826818908609264788,4604069683695838308,13825996992116532620),(4613905289146325980,13822340816252651292,4603550426128145089,13824581512549907880)]
def aO1(t:Nat):List (Nat×Nat×Nat)->Option (Nat×Nat)
 |[]=>none
 |(a,x,y)::r=>bif N9 a t then some (x,y) else aO1 t r
def aO2(z1 z2:Nat):List (Nat×Nat×Nat×Nat)->Option (Nat×Nat)
 |[]=>none
 |(a,b,x,y)::r=>bif N9 a z1&&N9 b z2 then some (x,y) else aO2 z1 z2 r
def bA5:Sum:=λR args k=>match args with
 |[.float .f64 l,.float .f64 t]=>bif N9 l 4613937818241073152 then
   match aO1 t bAh with
   |some (x,y)=>k (.complex .f64 x y)
   |none=>match aO1 t bAi with
    |some (x,y)=>k (.complex .f64 x y)
    |none=>match aO1 t bAj with
     |some (x,y)=>k (.complex .f64 x y)
     |none=>match aO1 t bAk with
      |some (x,y)=>k (.complex .f64 x y)
      |none=>none
  else none
 |_=>none
def eqV:V9->V9->Bool
 |.int j a,.int k b=>decide (j=k)&&decide (a=b)
 |.float j a,.float k b=>decide (j=k)&&N9 a b
 |.complex j a b,.complex k c d=>decide (j=k)&&N9 a c&&N9 b d
 |_,_=>false
def eqC:List V9->List V9->Bool
 |[],[]=>true
 |a::r,b::s=>eqV a b&&eqC r s
 |_,_=>false
def spV(p:Nat×Nat):V9:=.tuple ⟨[.complex .f64 p.1 p.2,.int .i64 0]⟩
def hsF(f:FuncId)(args:List V9)(H:AH):Option V9:=bif N9 f 61 then
  match args with
  |[.agg ⟨[.slice (some ⟨b,0,none⟩) 3 3]⟩,.complex .f64 z1 z2]=>
   match aCg b H.objs with
   |some (.cells cs 0)=>bif eqC cs bK5 then
     match aO2 z1 z2 bBh with
     |some p=>some (spV p)
     |none=>match aO2 z1 z2 bBi with
      |some p=>some (spV p)
      |none=>match aO2 z1 z2 bBj with
       |some p=>some (spV p)
       |none=>match aO2 z1 z2 bBk with
        |some p=>some (spV p)
        |none=>none
    else none
   |_=>none
  |_=>none
 else none
noncomputable def cxt(l:List (Nat×Sum)):Cx:={ cxm P9 ((27,bA5)::l) with hs:=hsF }
theorem cFh:Has P9 27:=⟨Tryz.f27,_,Tryz.func27,by kernel_rfl,rfl⟩
theorem h52:Has P9 61:=⟨Tryz.f61,_,Tryz.func61,by kernel_rfl,rfl⟩
def isC(v:Option V9)(x y:Nat):Bool:=match v with|some (.complex .f64 a b)=>N9 a x&&N9 b y|_=>false
theorem bS2{v:Option V9}{x y:Nat}(h:isC v x y=true):v=some (.complex .f64 x y):=by
 unfold isC at h;split at h;· simp only[B9,Nat.beq_eq]at h;rw[h.1,h.2]
 ·cases h
noncomputable def bKm:List (Nat×Nat×Nat)->Bool
 |[]=>true
 |(t,x,y)::r=>isC (fC (cxm P9 hot) 300 27 [.float .f64 4613937818241073152,.float .f64 t] some) x y&&bKm r
theorem wB{t x y:Nat}:∀{l:List (Nat×Nat×Nat)},bKm l=true->aO1 t l=some (x,y)->fC (cxm P9 hot) 300 27 [.float .f64 4613937818241073152,.float .f64 t] some=some (.complex .f64 x y)
 |[],_,h=>by cases h
 |(a,u,v)::r,hc,h=>by
  unfold bKm at hc;simp only[B9]at hc;unfold aO1 at h;cases ha:N9 a t with
  |true=>rw[ha]at h;cases h;have:=gO ha;subst this;exact bS2 hc.1
  |false=>rw[ha]at h;exact wB hc.2 h
theorem bUq:bKm bAh=true:=by kernel_rfl
theorem bUr:bKm bAi=true:=by kernel_rfl
theorem bUs:bKm bAj=true:=by kernel_rfl
theorem bUt:bKm bAk=true:=by kernel_rfl
theorem cFx:cH P9 27 bA5:=by
 intro R args k r hr;unfold bA5 at hr;split at hr
 ·rename_i l t;cases hl:N9 l 4613937818241073152 with
  |false=>rw[hl]at hr;cases hr
  |true=>
   rw[hl]at hr;have:=gO hl;subst this;simp only[T7]at hr;have key:∃x y,fC (cxm P9 hot) 300 27 [.float .f64 4613937818241073152,.float .f64 t] some=some (.complex .f64 x y)/\k (.complex .f64 x y)=some r:=by
    split at hr;· exact⟨_,_,wB bUq ‹_›,hr⟩
    ·split at hr
     ·exact⟨_,_,wB bUr ‹_›,hr⟩
     ·split at hr
      ·exact⟨_,_,wB bUs ‹_›,hr⟩
      ·split at hr
       ·exact⟨_,_,wB bUt ‹_›,hr⟩
       ·cases hr
   obtain⟨x,y,h1,h2⟩:=key;obtain⟨v,g1,g2,g3⟩:=cD (aD9 aEh) aO h1 rfl;cases g1;exact⟨rfl,_,h2,g2,g3⟩
 ·cases hr
noncomputable def evS(z1 z2:Nat):Option V9:=match Tryz.f61.body with
 |some c=>aN6 (cxm P9 hot) 300 1 61 Tryz.f61 c [.agg ⟨[.slice (some ⟨0,0,none⟩) 3 3]⟩,.complex .f64 z1 z2] ⟨1,[(0,.cells bK5 0)]⟩ (λv _=>bif flat v then some v else none)
 |none=>none
def isT(v:Option V9)(x y:Nat):Bool:=match v with|some (.tuple ⟨[.complex .f64 a b,.int .i64 e]⟩)=>N9 a x&&N9 b y&&decide (e=0)|_=>false
theorem bS3{v:Option V9}{x y:Nat}(h:isT v x y=true):v=some (spV (x,y)):=by
 unfold isT at h;split at h;· simp only[B9,Nat.beq_eq,decide_eq_true_eq]at h;rw[h.1.1,h.1.2,h.2];rfl
 ·cases h
noncomputable def bKn:List (Nat×Nat×Nat×Nat)->Bool
 |[]=>true
 |(a,b,x,y)::r=>isT (evS a b) x y&&bKn r
theorem wC{z1 z2:Nat}{p:Nat×Nat}:∀{l:List (Nat×Nat×Nat×Nat)},bKn l=true->aO2 z1 z2 l=some p->evS z1 z2=some (spV p)
 |[],_,h=>by cases h
 |(a,b,u,v)::r,hc,h=>by
  unfold bKn at hc;simp only[B9]at hc;unfold aO2 at h;cases ha:(N9 a z1&&N9 b z2) with
  |true=>rw[ha]at h;cases h;simp only[B9,Nat.beq_eq]at ha;rw[<-ha.1,<-ha.2];exact bS3 hc.1
  |false=>rw[ha]at h;exact wC hc.2 h
theorem bVm:bKn bBh=true:=by kernel_rfl
theorem bVn:bKn bBi=true:=by kernel_rfl
theorem bVo:bKn bBj=true:=by kernel_rfl
theorem bVp:bKn bBk=true:=by kernel_rfl
theorem bR5:∀{a b:V9},eqV a b=true->a=b:=by
 intro a b h;unfold eqV at h;split at h;· simp only[B9,decide_eq_true_eq]at h;rw[h.1,h.2]
 ·simp only[B9,decide_eq_true_eq,Nat.beq_eq]at h;rw[h.1,h.2]
 ·simp only[B9,decide_eq_true_eq,Nat.beq_eq]at h;rw[h.1.1,h.1.2,h.2]
 ·cases h
theorem bHr:∀{a b:List V9},eqC a b=true->a=b
 |[],[],_=>rfl
 |a::r,b::s,h=>by unfold eqC at h;simp only[B9]at h;rw[bR5 h.1,bHr h.2]
 |[],_::_,h=>by cases h
 |_::_,[],h=>by cases h
theorem aQi{z1 z2:Nat}{v:V9}(h:evS z1 z2=some v):flat v=true/\∀(b:Nat)(ρ:Map)(H:AH)(w:World)(args':List V9),Inv ρ H w->aCg b H.objs=some (.cells bK5 0)->
  cF ρ [.agg ⟨[.slice (some ⟨b,0,none⟩) 3 3]⟩,.complex .f64 z1 z2] args'->Calls P9 61 ⟨args'⟩ w λe w'=>e=.returned v/\RowKit.Below w.heap.size w w':=by
 unfold evS at h;split at h
 ·rename_i c hb;obtain⟨v',H',h1,h2⟩:=aDz (aD9 aEh) (λlo sz c e H k r=>(pX (aD9 aEh) aO 300).1 lo sz c e H k r) _ _ _ _ _ _ _ _ h Tryz.func61 hb;cases hfl:flat v' with
  |false=>rw[hfl]at h1;cases h1
  |true=>
   rw[hfl]at h1;cases h1;refine⟨hfl,λb ρ H w args' hi hl ha=>?_⟩;obtain⟨s,e1,arr,ty,cs',q1,q2,q3,q4,q5⟩:=hi.rel.obj b _ (kS hl);have hflat:kZ 0 bK5=true:=by decide
   have:=q2.flat_eq hflat;subst this;have hinv:Inv (λk=>bif N9 k 0 then some s else none) ⟨1,[(0,.cells bK5 0)]⟩ w:=
    ⟨λk hk=>by
      simp only at hk;have:N9 k 0=false:=aQ4 (by omega);simp[this],
     λk o hm=>by simp only[List.mem_singleton,Prod.mk.injEq]at hm;simp[hm.1],
     λk o o' hm hm'=>by simp only[List.mem_singleton,Prod.mk.injEq]at hm hm';rw[hm.2,hm'.2],
     ⟨λk o hm=>by
       simp only[List.mem_singleton,Prod.mk.injEq]at hm;obtain⟨rfl,rfl⟩:=hm;exact⟨s,rfl,arr,ty,bK5,q1,cF.ofFlat _ hflat,q3,q4,q5⟩,
      λk o k' o' s s' hm hm' _ _ _=>by simp only[List.mem_singleton,Prod.mk.injEq]at hm hm';rw[hm.1,hm'.1]⟩⟩
   have hargs:cF (λk=>bif N9 k 0 then some s else none) [.agg ⟨[.slice (some ⟨0,0,none⟩) 3 3]⟩,.complex .f64 z1 z2] args':=by
    obtain _|⟨r1,r2⟩:=ha;obtain _|⟨r2,r3⟩:=r2;cases r3;cases r2;cases r1 with|agg r1=>
    obtain _|⟨r1,r4⟩:=r1;cases r4;cases r1 with
    |@slice _ _ _ _ s2 hs=>rw[e1]at hs;cases hs;exact .cons (.agg (.cons (.slice (s:=s) rfl) .nil)) (.cons (.complex _ _) .nil)
   refine(h2 _ w args' hinv (Nat.le_refl _) hargs).mono ?_
   rintro e w' ⟨ρ',v',rfl,g1,g2⟩
   have:=g1.flat_eq hfl;subst this;exact⟨rfl,g2.os,g2.tape,g2.output,g2.size,λb hb=>g2.keep b hb λk o s hk hm=>by simp only[List.mem_singleton,Prod.mk.injEq]at hm;omega⟩
 ·cases h
theorem bSx:∀f args H v,hsF f args H=some v->Has P9 f/\flat v=true/\
  ∀(ρ:Map)(w:World)(args':List V9),Inv ρ H w->cF ρ args args'->Calls P9 f ⟨args'⟩ w λe w'=>e=.returned v/\RowKit.Below w.heap.size w w':=by
 intro f args H v h;unfold hsF at h;cases hf:N9 f 61 with
 |false=>rw[hf]at h;cases h
 |true=>
  rw[hf]at h;have:=gO hf;subst this;simp only[T7]at h;split at h
  ·rename_i b z1 z2;split at h
   ·rename_i cs hl;cases he:eqC cs bK5 with
    |false=>rw[he]at h;cases h
    |true=>
     rw[he]at h;have:=bHr he;subst this;simp only[T7]at h;have key:evS z1 z2=some v:=by
      split at h;· cases h;exact wC bVm ‹_›
      ·split at h
       ·cases h;exact wC bVn ‹_›
       ·split at h
        ·cases h;exact wC bVo ‹_›
        ·split at h
         ·cases h;exact wC bVp ‹_›
         ·cases h
     obtain⟨g1,g2⟩:=aQi key;exact⟨h52,g1,λρ w args' hi ha=>g2 b ρ H w args' hi hl ha⟩
   ·cases h
  ·cases h
theorem bRx{l:List (Nat×Sum)}(h:mE P9 l):(cxt l).Ok where
 fair:=aI
 sums:=λf g hg=>aCq (.cons cFx cFh h) f g hg
 exts:=λf g hg=>yJ aXx f g hg
 meths:=aPg
 nan1:=(aD9 h).nan1
 hs:=bSx
theorem h67:Has P9 18:=⟨Tryz.f18,_,Tryz.func18,by kernel_rfl,rfl⟩
theorem aU5:fC (cxt hot) 1000 18 [] some=some (.bool true):=by kernel_rfl
theorem k67:cH P9 18 bVf:=λR args k r hr=>by
 unfold bVf at hr;split at hr;· obtain⟨v,h1,h2,h3⟩:=cD (bRx aEh) aO aU5 rfl;cases h1;exact⟨rfl,_,hr,h2,h3⟩
 ·cases hr
theorem h68:Has P9 19:=⟨Tryz.f19,_,Tryz.func19,by kernel_rfl,rfl⟩
theorem cC6:Has P9 64:=⟨Tryz.f64,_,Tryz.func64,by kernel_rfl,rfl⟩
theorem h40:Has P9 16:=⟨Tryz.f16,_,Tryz.func16,by kernel_rfl,rfl⟩
theorem h66:Has P9 30:=⟨Tryz.f30,_,Tryz.func30,by kernel_rfl,rfl⟩
theorem h65:Has P9 25:=⟨Tryz.f25,_,Tryz.func25,by kernel_rfl,rfl⟩
theorem h69:Has P9 20:=⟨Tryz.f20,_,Tryz.func20,by kernel_rfl,rfl⟩
theorem k68:cH P9 19 (sIF jC):=dL aO .nil (n:=60) λR args k r hr=>by
 unfold sIF at hr;split at hr;· exact⟨rfl,(bG6 aG R _ k).trans hr⟩
 ·cases hr
theorem cD0:cH P9 64 (sCC jK):=aE9 aO .nil bP6
theorem k40:cH P9 16 (sCC jV):=aE9 aO .nil bG5
theorem k65:cH P9 25 bVe:=dL aO .nil (n:=60) λR args k r hr=>by
 unfold bVe at hr;split at hr;· exact⟨rfl,(cCn R k).trans hr⟩
 ·cases hr
def bNg{R:Type}(k:KVO R):V9->Option R:=λv=>match v with | .bool true=>k (.bool true)|_=>none
def bFe{R:Type}(k:KVO R):V9->Option R:=λv=>match v with | .bool false=>k (.bool false)|_=>none
theorem aVm{R:Type}{k:V9->Option R}{v:V9}{r:R}(h:bNg k v=some r):k v=some r:=by
 unfold bNg at h;split at h;· exact h
 ·cases h
theorem aHk{R:Type}{k:V9->Option R}{v:V9}{r:R}(h:bFe k v=some r):k v=some r:=by
 unfold bFe at h;split at h;· exact h
 ·cases h
theorem cF3:cH P9 30 (aTr (nrT kO)):=(dL (g:=bNw (aSt kO)) aO (.cons k53 h53 .nil) (n:=60) λR args k r hr=>by
 unfold bNw at hr;split at hr;· exact⟨rfl,(bP7 _ R _ _ _ k).trans hr⟩
 ·cases hr).weak λR args k r hr=>by
 unfold aTr at hr;split at hr;· refine⟨bNg k,?_,λv hv=>aVm hv⟩;unfold bNw;simp only;refine Eq.trans ?_ hr;congr 1<;>(funext t;cases t<;>rfl)
 ·cases hr
theorem bTe:cH P9 75 (bFw n1K):=bQm.weak λR args k r hr=>by
 unfold bFw at hr;split at hr;· refine⟨bFe k,?_,λv hv=>aHk hv⟩;unfold sFB;simp only;refine Eq.trans ?_ hr;unfold n1K;congr 1<;>(funext t;cases t<;>rfl)
 ·cases hr
theorem bTd:cH P9 73 (bFx n2K):=aZg.weak λR args k r hr=>by
 unfold bFx at hr;split at hr;· refine⟨bFe k,?_,λv hv=>aHk hv⟩;unfold aP7;simp only;refine Eq.trans ?_ hr;unfold n2K;show xX R _ _=_;congr 1<;>(funext t;cases t<;>rfl)
 ·cases hr
def sV(C:Cx)(n:Nat):qR:=λR lo sz a e H k=>lV C (n+1) lo sz (.loop a) e H k
theorem lN{C:Cx}(hC:C.Ok)(hmix:C.P.follows .mixedOrders=true)(n:Nat)(a:Code):LOk C.P (sV C n) a:=λR lo sz e H k r h=>by obtain⟨ex,e',H',h1,h2⟩:=(pX hC hmix (n+1)).1 lo sz (.loop a) e H k r h;exact⟨ex,e',H',h1,@h2⟩
open Ieee
def bQk{R:Type}(big small:Nat)(k:KNO R):Option R:=aM (fbF .quo small big) λr=>aM (fbF .mul r r) λr=>aM (fbF .add r 4607182418800017408) λr=>aM (double.sqrt r) λr=>aM (fbF .mul r big) k
def aCc:vS:=λR a b k=>
 bif Nat.blt (a%2^63) 9218868437227405312&&Nat.blt (b%2^63) 9218868437227405312 then
  bif N9 (a%2^63) 0&&N9 (b%2^63) 0 then k 0
  else bif ltF (a%2^63) (b%2^63) then bQk (b%2^63) (a%2^63) k else bQk (a%2^63) (b%2^63) k
 else none
def bNx(g:vS):Sum:=λR args k=>match args with
 |[.float .f64 a,.float .f64 b]=>g R a b λx=>k (.float .f64 x)
 |_=>none
theorem bW3(hy:vS)(R:Type)(a b:Nat)(k:KVO R):fC (cxf aG P9 [] [(96,bNx hy)]) 60 59 [.float .f64 a,.float .f64 b] k=hy R a b λx=>k (.float .f64 x):=by kernel_rfl
abbrev bC2:=∀R:Type,Int->Nat->Nat->Nat->Nat->Nat->Nat->Nat->(Nat->Nat->Int->Option R)->Option R
def bX7(g:bC2):Sum:=λR args k=>match args with
 |[.agg ⟨[.int .u8 kind,.complex .f64 a1 a2,.complex .f64 s1 s2,.float .f64 p]⟩,.complex .f64 z1 z2]=>g R kind a1 a2 s1 s2 p z1 z2 λa b e=>k (.tuple ⟨[.complex .f64 a b,.int .i64 e]⟩)
 |_=>none
abbrev KCI:=∀R:Type,Nat->Nat->(Int->Option R)->Option R
def sCI(g:KCI):Sum:=λR args k=>match args with
 |[.complex .f64 a b]=>g R a b λe=>k (.int .i64 e)
 |_=>none
def cEk:Mm:=aPh (λ_=>false) [] (λ_ _ _ _ _=>none) (λ_ _ _ _ _ _ _ _ _=>none)
noncomputable def uC(fi:Fi)(l:List (Nat×Sum))(gl:List (Nat×vP))(ml:List (Nat×aDo)):Cx:={ cxM fi P9 (λ_ _=>none) l [] gl ml cEk with wild:=bV7 }
theorem bM6:cEk.Ok P9:=⟨(λt g h=>by cases h),(λR cs off vs k r h=>by cases h),(λR t cs n c cx off m k r h=>by cases h)⟩
theorem aC1{l:List (Nat×Sum)}(hl:mE P9 l){gl:List (Nat×vP)}(hg:aWj P9 gl){ml:List (Nat×aDo)}(hml:bJy P9 ml):(uC aG l gl ml).Ok:=
 let h:=lS (P:=P9) jR hl lY hg hml bM6
 {fair:=h.fair,sums:=h.sums,exts:=h.exts,meths:=h.meths,hs:=h.hs,nan1:=h.nan1,gs:=h.gs,ms:=h.ms,mg:=h.mg,mm:=h.mm }
theorem aC{x y a b:Rat}(h1:x<=a)(h2:y<=b)(hy:0<=y)(ha:0<=a):x*y<=a*b:=
 cR (cG h1 hy) (dI h2 ha)
end Go.Vm
