/- A part; no conditions. -/
import Derived.Test.YtaogignikkjkjaaGreatVmTB4
set_option maxRecDepth 1000000
set_option maxHeartbeats 1000000
set_option linter.all false
open Go.Proofs.Tryz renaming prog->P9
open Option renaming bind_some->D9
open Go renaming Value->V9
namespace Go.Vm
open Go.Proofs
def aJz(v:V9)(g:HT):aDo:=λR args H k=>g R args H (k v ⟨H.next+1,H.objs⟩)
def fbX(n c c1 c2 r:Nat)(cs:List V9)(sz:Nat):dF:=[(3,.cells [.complex .f64 0 0,.float .f64 0] 0),(2,.cells [.complex .f64 c1 c2,.float .f64 r] 0),(1,.cells [.slice (some ⟨0,0,none⟩) n c] 0),(0,.cells cs sz)]
def inV(v:V9):V9:=.tuple ⟨[v,.int .i64 0]⟩
abbrev fbL(L1 L2:qR):qR:=orL 106 (eS fcT [6,8,7,5,3,2,0] L2) (eS fbT [6,5,4,3,2,0] L1)
abbrev fbN(L1 L2:qR):qR:=orL 106 (eS fcT [6,8,5,3,2,0] L2) (eS fbT [6,5,4,3,2,0] L1)
abbrev fbQ(L1 L2:qR):qR:=orL 106 L2 (eS fbT [6,5,4,3,2,0] L1)
abbrev fbR(L1 L2:qR):qR:=orL 106 L2 (eS fbT [6,5,3,2,0] L1)
def fbZ{R:Type}(cj:KCC)(sc:mO)(fn:KCB)(ff:KFB)(x y r1 r2:Nat)(K:Nat->Nat->Nat->Int->Option R):Option R:=
 sc R x y 13837628693406821656 λa b=>cj R a b λa b=>aM (fbF .mul 4614256656552045848 r2) λm=>fn R a b λt=>bif t then ff R m λt=>bif t then K a b m 0 else K 0 0 0 6 else K 0 0 0 6
section
variable(fi:Fi)(ge:aUg)(st:St)(ap:Ap)(ad mu sub:gU)(sh ng cj:KCC)(sc:mO)(fn:KCB)(ff:KFB)(pr:KPr)(gq gi gs:HT)(gm:MT)(cs os is hs ins:List V9)(sz n c j k x y r1 r2 c1 c2 r u1 u2:Nat)(w sv ov:V9)(L1 L2:qR)(R:Type)(K:Ex->Env->dF->Option R)
theorem aYb:bE (fbC oa0 1 fi ge st ap ad mu sub sh ng cj sc fn ff pr [(11,bF (reV x y 0) gq),(44,bF (.complex .f64 u1 u2) gs)] [(31,jA 1 (λb=>inV (sl3 b j)) gm)]) 60 (fbL L1 L2) 1 180 (bB 24) (gX 0 [cW 0 n c,ciV c1 c2 r]) ⟨1,[(0,.cells cs sz)]⟩ (aU [4,5] [3] K) =
  gq R [cW 0 n c,ciV c1 c2 r] ⟨4,fbX n c c1 c2 r cs sz⟩ (gm R [cW 0 n c,ciV c1 c2 r] ⟨4,fbX n c c1 c2 r cs sz⟩ λis=>L1 R 1 180 fbA (fbE (sl3 4 j) bL n c x y 0) ⟨7,[(6,.cells [bL,bL,.map (some 5)] 0),(5,.map .u8 aUw),(4,.cells is 1),(3,.cells [.complex .f64 0 0,.float .f64 0] 0),(2,.cells [.complex .f64 c1 c2,.float .f64 r] 0),(0,.cells cs sz)]⟩ (fS 0 (jP (λen H=>bE (fbC oa0 1 fi ge st ap ad mu sub sh ng cj sc fn ff pr [(11,bF (reV x y 0) gq),(44,bF (.complex .f64 u1 u2) gs)] [(31,jA 1 (λb=>inV (sl3 b j)) gm)]) 60 (fbL L1 L2) 1 180 (lJ 8 (bB 24)) en H (aU [4,5] [3] K)) (aU [4,5] [3] K)))):=by kernel_rfl
theorem aYc:bE (fbC oa0 1 fi ge st ap ad mu sub sh ng cj sc fn ff pr [(11,bF (reV x y 0) gq),(44,bF (.complex .f64 u1 u2) gs)] [(31,jA 1 (λb=>inV (sl3 b j)) gm)]) 60 (fbN L1 L2) 1 180 (bB 24) (gX 0 [cW 0 n c,ciV c1 c2 r]) ⟨1,[(0,.cells cs sz)]⟩ (aU [4,5] [3] K) =
  gq R [cW 0 n c,ciV c1 c2 r] ⟨4,fbX n c c1 c2 r cs sz⟩ (gm R [cW 0 n c,ciV c1 c2 r] ⟨4,fbX n c c1 c2 r cs sz⟩ λis=>L1 R 1 180 fbA (fbE (sl3 4 j) bL n c x y 0) ⟨7,[(6,.cells [bL,bL,.map (some 5)] 0),(5,.map .u8 aUw),(4,.cells is 1),(3,.cells [.complex .f64 0 0,.float .f64 0] 0),(2,.cells [.complex .f64 c1 c2,.float .f64 r] 0),(0,.cells cs sz)]⟩ (fS 0 (jP (λen H=>bE (fbC oa0 1 fi ge st ap ad mu sub sh ng cj sc fn ff pr [(11,bF (reV x y 0) gq),(44,bF (.complex .f64 u1 u2) gs)] [(31,jA 1 (λb=>inV (sl3 b j)) gm)]) 60 (fbN L1 L2) 1 180 (lJ 8 (bB 24)) en H (aU [4,5] [3] K)) (aU [4,5] [3] K)))):=by kernel_rfl
theorem bLm:bE (fbC oa0 1 fi ge st ap ad mu sub sh ng cj sc fn ff pr [(11,bF (reV x y 0) gq),(44,bF (.complex .f64 u1 u2) gs)] [(31,jA 1 (λb=>inV (sl3 b j)) gm)]) 60 (fbQ L1 L2) 1 180 (bB 24) (gX 0 [cW 0 n c,ciV c1 c2 r]) ⟨1,[(0,.cells cs sz)]⟩ (aU [4,5] [3] K) =
  gq R [cW 0 n c,ciV c1 c2 r] ⟨4,fbX n c c1 c2 r cs sz⟩ (gm R [cW 0 n c,ciV c1 c2 r] ⟨4,fbX n c c1 c2 r cs sz⟩ λis=>L1 R 1 180 fbA (fbE (sl3 4 j) bL n c x y 0) ⟨7,[(6,.cells [bL,bL,.map (some 5)] 0),(5,.map .u8 aUw),(4,.cells is 1),(3,.cells [.complex .f64 0 0,.float .f64 0] 0),(2,.cells [.complex .f64 c1 c2,.float .f64 r] 0),(0,.cells cs sz)]⟩ (fS 0 (jP (λen H=>bE (fbC oa0 1 fi ge st ap ad mu sub sh ng cj sc fn ff pr [(11,bF (reV x y 0) gq),(44,bF (.complex .f64 u1 u2) gs)] [(31,jA 1 (λb=>inV (sl3 b j)) gm)]) 60 (fbQ L1 L2) 1 180 (lJ 8 (bB 24)) en H (aU [4,5] [3] K)) (aU [4,5] [3] K)))):=by kernel_rfl
theorem bLn:bE (fbC oa0 1 fi ge st ap ad mu sub sh ng cj sc fn ff pr [(11,bF (reV x y 0) gq),(44,bF (.complex .f64 u1 u2) gs)] [(31,aJz (inV bL) gi)]) 60 (fbR L1 L2) 1 180 (bB 24) (gX 0 [cW 0 n c,ciV c1 c2 r]) ⟨1,[(0,.cells cs sz)]⟩ (aU [4,5] [3] K) =
  gq R [cW 0 n c,ciV c1 c2 r] ⟨4,fbX n c c1 c2 r cs sz⟩ (gi R [cW 0 n c,ciV c1 c2 r] ⟨4,fbX n c c1 c2 r cs sz⟩ (L1 R 1 180 fbA (fbE bL bL n c x y 0) ⟨7,[(6,.cells [bL,bL,.map (some 5)] 0),(5,.map .u8 aUw),(3,.cells [.complex .f64 0 0,.float .f64 0] 0),(2,.cells [.complex .f64 c1 c2,.float .f64 r] 0),(0,.cells cs sz)]⟩ (fS 0 (jP (λen H=>bE (fbC oa0 1 fi ge st ap ad mu sub sh ng cj sc fn ff pr [(11,bF (reV x y 0) gq),(44,bF (.complex .f64 u1 u2) gs)] [(31,aJz (inV bL) gi)]) 60 (fbR L1 L2) 1 180 (lJ 8 (bB 24)) en H (aU [4,5] [3] K)) (aU [4,5] [3] K))))):=by kernel_rfl
theorem bDy:bE (fbC oa0 1 fi ge st ap ad mu sub sh ng cj sc fn ff pr [(11,bF (reV x y 0) gq),(44,bF (.complex .f64 u1 u2) gs)] [(31,jA 1 (λb=>inV (sl3 b j)) gm)]) 60 (fbL L1 L2) 1 180 (lJ 8 (bB 24)) (fbE w sv n c x y n) ⟨10,[(9,.cells hs 1)]++(fcO ov is k [(7,.cells os 4)] c1 c2 r++[(4,.cells ins 1),(0,.cells cs sz)])⟩ (aU [4,5] [3] K) =
  gs R [sv] ⟨10,[(9,.cells hs 1)]++(fcO ov is k [(7,.cells os 4)] c1 c2 r++[(4,.cells ins 1),(0,.cells cs sz)])⟩ (xJ mu u1 u2 [(u1,u2)] λr1 r2=>L2 R 1 180 fcA (fcE k x y r1 r2 0) ⟨11,fcO ov is k [(7,.cells os 4)] c1 c2 r++[(0,.cells cs sz)]⟩ (fS 2 (jP (λen H=>bE (fbC oa0 1 fi ge st ap ad mu sub sh ng cj sc fn ff pr [(11,bF (reV x y 0) gq),(44,bF (.complex .f64 u1 u2) gs)] [(31,jA 1 (λb=>inV (sl3 b j)) gm)]) 60 (fbL L1 L2) 1 180 (lJ 11 (bB 24)) en H (aU [4,5] [3] K)) (aU [4,5] [3] K)))):=by kernel_rfl
theorem bDx:bE (fbC oa0 1 fi ge st ap ad mu sub sh ng cj sc fn ff pr [(11,bF (reV x y 0) gq),(44,bF (.complex .f64 u1 u2) gs)] [(31,jA 1 (λb=>inV (sl3 b j)) gm)]) 60 (fbL L1 L2) 1 180 (lJ 8 (bB 24)) (fbE w sv n c x y n) ⟨10,(fcO ov is k [(7,.cells os 4)] c1 c2 r++[(4,.cells ins 1),(0,.cells cs sz)])⟩ (aU [4,5] [3] K) =
  gs R [sv] ⟨10,(fcO ov is k [(7,.cells os 4)] c1 c2 r++[(4,.cells ins 1),(0,.cells cs sz)])⟩ (xJ mu u1 u2 [(u1,u2)] λr1 r2=>L2 R 1 180 fcA (fcE k x y r1 r2 0) ⟨11,fcO ov is k [(7,.cells os 4)] c1 c2 r++[(0,.cells cs sz)]⟩ (fS 2 (jP (λen H=>bE (fbC oa0 1 fi ge st ap ad mu sub sh ng cj sc fn ff pr [(11,bF (reV x y 0) gq),(44,bF (.complex .f64 u1 u2) gs)] [(31,jA 1 (λb=>inV (sl3 b j)) gm)]) 60 (fbL L1 L2) 1 180 (lJ 11 (bB 24)) en H (aU [4,5] [3] K)) (aU [4,5] [3] K)))):=by kernel_rfl
theorem aX3:bE (fbC oa0 1 fi ge st ap ad mu sub sh ng cj sc fn ff pr [(11,bF (reV x y 0) gq),(44,bF (.complex .f64 u1 u2) gs)] [(31,jA 1 (λb=>inV (sl3 b j)) gm)]) 60 (fbL L1 L2) 1 180 (lJ 11 (bB 24)) (fcE k x y r1 r2 k) ⟨11,fcO ov is k [(7,.cells os 4)] c1 c2 r++[(0,.cells cs sz)]⟩ (aU [4,5] [3] K) =
  fbZ cj sc fn ff x y r1 r2 λa b m e=>K .ret [(4,.pointer (some ⟨3,0,none⟩)),(5,.int .i64 e)] [(3,.cells [.complex .f64 a b,.float .f64 m] 0)]:=by kernel_rfl
theorem bD0:bE (fbC oa0 1 fi ge st ap ad mu sub sh ng cj sc fn ff pr [(11,bF (reV x y 0) gq),(44,bF (.complex .f64 u1 u2) gs)] [(31,jA 1 (λb=>inV (sl3 b j)) gm)]) 60 (fbN L1 L2) 1 180 (lJ 8 (bB 24)) (fbE w sv n c x y n) ⟨10,[(9,.cells hs 1)]++(fcO ov is k [] c1 c2 r++[(4,.cells ins 1),(0,.cells cs sz)])⟩ (aU [4,5] [3] K) =
  gs R [sv] ⟨10,[(9,.cells hs 1)]++(fcO ov is k [] c1 c2 r++[(4,.cells ins 1),(0,.cells cs sz)])⟩ (xJ mu u1 u2 [(u1,u2)] λr1 r2=>L2 R 1 180 fcA (fcE k x y r1 r2 0) ⟨11,fcO ov is k [] c1 c2 r++[(0,.cells cs sz)]⟩ (fS 2 (jP (λen H=>bE (fbC oa0 1 fi ge st ap ad mu sub sh ng cj sc fn ff pr [(11,bF (reV x y 0) gq),(44,bF (.complex .f64 u1 u2) gs)] [(31,jA 1 (λb=>inV (sl3 b j)) gm)]) 60 (fbN L1 L2) 1 180 (lJ 11 (bB 24)) en H (aU [4,5] [3] K)) (aU [4,5] [3] K)))):=by kernel_rfl
theorem bDz:bE (fbC oa0 1 fi ge st ap ad mu sub sh ng cj sc fn ff pr [(11,bF (reV x y 0) gq),(44,bF (.complex .f64 u1 u2) gs)] [(31,jA 1 (λb=>inV (sl3 b j)) gm)]) 60 (fbN L1 L2) 1 180 (lJ 8 (bB 24)) (fbE w sv n c x y n) ⟨10,(fcO ov is k [] c1 c2 r++[(4,.cells ins 1),(0,.cells cs sz)])⟩ (aU [4,5] [3] K) =
  gs R [sv] ⟨10,(fcO ov is k [] c1 c2 r++[(4,.cells ins 1),(0,.cells cs sz)])⟩ (xJ mu u1 u2 [(u1,u2)] λr1 r2=>L2 R 1 180 fcA (fcE k x y r1 r2 0) ⟨11,fcO ov is k [] c1 c2 r++[(0,.cells cs sz)]⟩ (fS 2 (jP (λen H=>bE (fbC oa0 1 fi ge st ap ad mu sub sh ng cj sc fn ff pr [(11,bF (reV x y 0) gq),(44,bF (.complex .f64 u1 u2) gs)] [(31,jA 1 (λb=>inV (sl3 b j)) gm)]) 60 (fbN L1 L2) 1 180 (lJ 11 (bB 24)) en H (aU [4,5] [3] K)) (aU [4,5] [3] K)))):=by kernel_rfl
theorem aX4:bE (fbC oa0 1 fi ge st ap ad mu sub sh ng cj sc fn ff pr [(11,bF (reV x y 0) gq),(44,bF (.complex .f64 u1 u2) gs)] [(31,jA 1 (λb=>inV (sl3 b j)) gm)]) 60 (fbN L1 L2) 1 180 (lJ 11 (bB 24)) (fcE k x y r1 r2 k) ⟨11,fcO ov is k [] c1 c2 r++[(0,.cells cs sz)]⟩ (aU [4,5] [3] K) =
  fbZ cj sc fn ff x y r1 r2 λa b m e=>K .ret [(4,.pointer (some ⟨3,0,none⟩)),(5,.int .i64 e)] [(3,.cells [.complex .f64 a b,.float .f64 m] 0)]:=by kernel_rfl
theorem bK7:bE (fbC oa0 1 fi ge st ap ad mu sub sh ng cj sc fn ff pr [(11,bF (reV x y 0) gq),(44,bF (.complex .f64 u1 u2) gs)] [(31,jA 1 (λb=>inV (sl3 b j)) gm)]) 60 (fbQ L1 (sV (fbC oa0 1 fi ge st ap ad mu sub sh ng cj sc fn ff pr [(11,bF (reV x y 0) gq),(44,bF (.complex .f64 u1 u2) gs)] [(31,jA 1 (λb=>inV (sl3 b j)) gm)]) 60)) 1 180 (lJ 8 (bB 24)) (fbE w bL n c x y n) ⟨10,[fbB bL ov]++fcX c1 c2 r++[(0,.cells cs sz)]⟩ (aU [4,5] [3] K) =
  gs R [bL] ⟨10,[fbB bL ov]++fcX c1 c2 r++[(0,.cells cs sz)]⟩ (xJ mu u1 u2 [(u1,u2)] λr1 r2=>fbZ cj sc fn ff x y r1 r2 λa b m e=>K .ret [(4,.pointer (some ⟨3,0,none⟩)),(5,.int .i64 e)] [(3,.cells [.complex .f64 a b,.float .f64 m] 0)]):=by kernel_rfl
theorem bK8:bE (fbC oa0 1 fi ge st ap ad mu sub sh ng cj sc fn ff pr [(11,bF (reV x y 0) gq),(44,bF (.complex .f64 u1 u2) gs)] [(31,aJz (inV bL) gi)]) 60 (fbR L1 (sV (fbC oa0 1 fi ge st ap ad mu sub sh ng cj sc fn ff pr [(11,bF (reV x y 0) gq),(44,bF (.complex .f64 u1 u2) gs)] [(31,aJz (inV bL) gi)]) 60)) 1 180 (lJ 8 (bB 24)) (fbE w bL n c x y n) ⟨10,[fbB bL ov]++fcX c1 c2 r++[(0,.cells cs sz)]⟩ (aU [4,5] [3] K) =
  gs R [bL] ⟨10,[fbB bL ov]++fcX c1 c2 r++[(0,.cells cs sz)]⟩ (xJ mu u1 u2 [(u1,u2)] λr1 r2=>fbZ cj sc fn ff x y r1 r2 λa b m e=>K .ret [(4,.pointer (some ⟨3,0,none⟩)),(5,.int .i64 e)] [(3,.cells [.complex .f64 a b,.float .f64 m] 0)]):=by kernel_rfl
end
structure bCs where
 os:List El
 is:List El
 hs:List (Nat×Nat)
def lv(b:Nat):Nat->V9
 |0=>bL
 |n+1=>sl3 b (n+1)
def obE(b:Nat):List El->dF
 |[]=>[]
 |x::l=>[(b,.cells (cellsOf (x::l)) 4)]
def obC(b:Nat):List (Nat×Nat)->dF
 |[]=>[]
 |x::l=>[(b,.cells (bA (x::l)) 1)]
def xC:Option (List V9)->dF
 |none=>[]
 |some is=>[(4,.cells is 1)]
def fbY(ins:Option (List V9))(c1 c2 r:Nat):dF:=[(5,.map .u8 aUw)]++xC ins++[(3,.cells [.complex .f64 0 0,.float .f64 0] 0),(2,.cells [.complex .f64 c1 c2,.float .f64 r] 0)]
def fbD(ins:Option (List V9))(S:bCs)(c1 c2 r:Nat):dF:=[fbB (lv 8 S.is.length) (lv 7 S.os.length)]++obE 7 S.os++obE 8 S.is++obC 9 S.hs++fbY ins c1 c2 r
def fbK(ins:Option (List V9))(S:bCs)(c1 c2 r:Nat)(cs:List V9)(sz:Nat):dF:=fbD ins S c1 c2 r++[(0,.cells cs sz)]
noncomputable def bDv(lim:Nat->Bool)(kd:Int)(b:Bool):Cx:=fbC lim kd aG (rQ kd) rSt (rAp P9) jJ dV gJ reH sU jK eQ aP dG gF [(66,bF (.bool b) (fJ P9 66 (.bool b)))] []
theorem cFo:Has P9 66:=⟨Tryz.f66,_,Tryz.func66,by kernel_rfl,rfl⟩
theorem aRk:mE P9 [(26,jH jJ),(35,jH gJ),(67,sCC reH),(45,sCC sU),(64,sCC jK),(15,tF eQ),(91,sCB aP),(93,sFB dG),(69,sPr gF),(60,aP6)]:=
 .cons k84 h84 (.cons k21 h21 (.cons cEf cDq (.cons k86 h86 (.cons cD0 cC6 (.cons k39 h39 (.cons k93 h93 (.cons bXs bXl (.cons cEg cDr (.cons bZ0 h60 .nil)))))))))
theorem aIw(lim:Nat->Bool)(kd:Int)(b:Bool):(bDv lim kd b).Ok:=lS jR aRk lY (.cons k62 h62 (.cons (gL rfl) cFo .nil)) .nil (jX (.cons (uZ aEz) .nil))
theorem aC7:fP fbA=[]:=by kernel_rfl
def bG9(ins:Option (List V9))(w:V9)(k:Nat)(b:Bool):Prop:=∀H:AH,(∀x∈xC ins,x∈H.objs)->aD P9 66 [w,.int .i64 (k:Int)] H (.bool b)
theorem bAy{ys:List El}{k:Nat}{X:El}(hk:ys[k]?=some X){kd:Int}(hd:X.kind=kd)(R:Type)(K:Nat->Nat->Nat->Nat->Nat->Option R):rQ kd R (cellsOf ys) (0+k*4) K=K X.a1 X.a2 X.s1 X.s2 X.p:=by obtain⟨rest,e⟩:=nN ys k _ hk;unfold rQ;rw[e];show(bif X.kind==kd then K X.a1 X.a2 X.s1 X.s2 X.p else none)=_;rw[show(X.kind==kd)=true by simp[hd]];rfl
section
variable{R:Type}{xs:List El}{k:Nat}{X:El}
theorem mQ(hk:xs[k]?=some X){kd:Int}(hd:X.kind=kd)(E:Option R)(Y:Nat->Nat->Nat->Nat->Nat->Option R):fbI (rQ kd) (cellsOf xs) xs.length k E Y=Y X.a1 X.a2 X.s1 X.s2 X.p:=by have hkn:=(List.getElem?_eq_some_iff.1 hk).1;unfold fbI;rw[D7 (show(k:Int)<xs.length by omega),T7,jN,T7,bAy hk hd]
theorem lI(l:List El)(X:El):cellsOf (l++[X])=cellsOf l++X.cs:=by rw[aLj];show _++(X.cs++[])=_;rw[List.append_nil]
theorem aDc{i:Nat}(h:i<900000):IntKind.i64.wrap ((i:Int)+1)=((i+1:Nat):Int):=fN (by omega)
end
section
variable{ins:Option (List V9)}{xs:List El}{w sv iv ov:V9}{c x y sz k:Nat}{X:El}
theorem kE{kd:Int}(hd:X.kind=kd):([.int .u8 kd,.complex .f64 X.a1 X.a2,.complex .f64 X.s1 X.s2,.float .f64 X.p]:List V9)=X.cs:=by rw[<-hd];rfl
theorem cE4(hn:xs.length<900000)(hk:xs[k]?=some X)(hd:X.kind=1\/X.kind=4\/(X.kind=2\/X.kind=3)/\bG9 ins w k false)(os:List El)(hos:os.length<900000):
  ∃lim kd bo,bE (bDv lim kd false) 60 noL 1 180 fbA (fbE w sv xs.length c x y k) ⟨10,[fbB iv (lv 7 os.length)]++obE 7 os++xC ins++[(0,.cells (cellsOf xs) sz)]⟩ (aU fbT bo λex e O=>some (ex,e,O)) =
   some (.normal,fbE w sv xs.length c x y (k+1:Nat),[fbB iv (sl3 12 (os.length+1)),(12,.cells (cellsOf (os++[X])) 4)]++xC ins):=by
 have w1:=aDc (i:=k) (by have:=(List.getElem?_eq_some_iff.1 hk).1;omega);have e1:cellsOf [X]=X.cs:=by show X.cs++[]=_;rw[List.append_nil]
 rcases hd with hd|hd|⟨hd|hd,hin⟩
 ·cases os with
  |nil=>
   cases ins with
   |some is=>refine⟨oa0,1,[6,12,4],(aX5 ..).trans ?_⟩;rw[mQ hk hd];rw[aI,w1,kE hd,<-e1];rfl
   |none=>refine⟨oa0,1,[6,12],(aX6 ..).trans ?_⟩;rw[mQ hk hd];rw[aI,w1,kE hd,<-e1];rfl
  |cons o os=>
   cases ins with
   |some is=>refine⟨aKz,1,[6,7,12,4],(aX7 (j:=(o::os).length) ..).trans ?_⟩;rw[mQ hk hd];rw[kE hd,qK (cL (o::os)).1 rfl rfl (by omega) (by omega)];show aG _ _ _=_;rw[aI,w1];show some (Ex.normal,_,_)=_;rw[lI (o::os) X];rfl
   |none=>refine⟨aKz,1,[6,7,12],(aX8 (j:=(o::os).length) ..).trans ?_⟩;rw[mQ hk hd];rw[kE hd,qK (cL (o::os)).1 rfl rfl (by omega) (by omega)];show aG _ _ _=_;rw[aI,w1];show some (Ex.normal,_,_)=_;rw[lI (o::os) X];rfl
 ·cases os with
  |nil=>
   cases ins with
   |some is=>refine⟨oa0,4,[6,12,4],(bLe ..).trans ?_⟩;rw[mQ hk hd];rw[aI,w1,kE hd,<-e1];rfl
   |none=>refine⟨oa0,4,[6,12],(bLf ..).trans ?_⟩;rw[mQ hk hd];rw[aI,w1,kE hd,<-e1];rfl
  |cons o os=>
   cases ins with
   |some is=>refine⟨aKz,4,[6,7,12,4],(bLk (j:=(o::os).length) ..).trans ?_⟩;rw[mQ hk hd];rw[kE hd,qK (cL (o::os)).1 rfl rfl (by omega) (by omega)];show aG _ _ _=_;rw[aI,w1];show some (Ex.normal,_,_)=_;rw[lI (o::os) X];rfl
   |none=>refine⟨aKz,4,[6,7,12],(bLl (j:=(o::os).length) ..).trans ?_⟩;rw[mQ hk hd];rw[kE hd,qK (cL (o::os)).1 rfl rfl (by omega) (by omega)];show aG _ _ _=_;rw[aI,w1];show some (Ex.normal,_,_)=_;rw[lI (o::os) X];rfl
 ·cases os with
  |nil=>
   cases ins with
   |some is=>refine⟨oa0,2,[6,12,4],(bLa ..).trans ?_⟩;rw[mQ hk hd];refine(cO (hin _ λu hu=>by simp[xC]at hu;simp[hu])).trans ?_;rw[aI,w1,kE hd,<-e1];rfl
   |none=>refine⟨oa0,2,[6,12],(bLb ..).trans ?_⟩;rw[mQ hk hd];refine(cO (hin _ λu hu=>by simp[xC]at hu)).trans ?_;rw[aI,w1,kE hd,<-e1];rfl
  |cons o os=>
   cases ins with
   |some is=>refine⟨aKz,2,[6,7,12,4],(bLg (j:=(o::os).length) ..).trans ?_⟩;rw[mQ hk hd];refine(cO (hin _ λu hu=>by simp[xC]at hu;simp[hu])).trans ?_;rw[kE hd,qK (cL (o::os)).1 rfl rfl (by omega) (by omega)];show aG _ _ _=_;rw[aI,w1];show some (Ex.normal,_,_)=_;rw[lI (o::os) X];rfl
   |none=>refine⟨aKz,2,[6,7,12],(bLh (j:=(o::os).length) ..).trans ?_⟩;rw[mQ hk hd];refine(cO (hin _ λu hu=>by simp[xC]at hu)).trans ?_;rw[kE hd,qK (cL (o::os)).1 rfl rfl (by omega) (by omega)];show aG _ _ _=_;rw[aI,w1];show some (Ex.normal,_,_)=_;rw[lI (o::os) X];rfl
 ·cases os with
  |nil=>
   cases ins with
   |some is=>refine⟨oa0,3,[6,12,4],(bLc ..).trans ?_⟩;rw[mQ hk hd];refine(cO (hin _ λu hu=>by simp[xC]at hu;simp[hu])).trans ?_;rw[aI,w1,kE hd,<-e1];rfl
   |none=>refine⟨oa0,3,[6,12],(bLd ..).trans ?_⟩;rw[mQ hk hd];refine(cO (hin _ λu hu=>by simp[xC]at hu)).trans ?_;rw[aI,w1,kE hd,<-e1];rfl
  |cons o os=>
   cases ins with
   |some is=>refine⟨aKz,3,[6,7,12,4],(bLi (j:=(o::os).length) ..).trans ?_⟩;rw[mQ hk hd];refine(cO (hin _ λu hu=>by simp[xC]at hu;simp[hu])).trans ?_;rw[kE hd,qK (cL (o::os)).1 rfl rfl (by omega) (by omega)];show aG _ _ _=_;rw[aI,w1];show some (Ex.normal,_,_)=_;rw[lI (o::os) X];rfl
   |none=>refine⟨aKz,3,[6,7,12],(bLj (j:=(o::os).length) ..).trans ?_⟩;rw[mQ hk hd];refine(cO (hin _ λu hu=>by simp[xC]at hu)).trans ?_;rw[kE hd,qK (cL (o::os)).1 rfl rfl (by omega) (by omega)];show aG _ _ _=_;rw[aI,w1];show some (Ex.normal,_,_)=_;rw[lI (o::os) X];rfl
theorem cE3{is:List V9}(hn:xs.length<900000)(hk:xs[k]?=some X)(hd:X.kind=3)(hin:bG9 (some is) w k true)(os:List El)(hos:os.length<900000):
  ∃lim kd bo,bE (bDv lim kd true) 60 noL 1 180 fbA (fbE w sv xs.length c x y k) ⟨10,[fbB (lv 8 os.length) ov]++obE 8 os++xC (some is)++[(0,.cells (cellsOf xs) sz)]⟩ (aU fbT bo λex e O=>some (ex,e,O)) =
   some (.normal,fbE w sv xs.length c x y (k+1:Nat),[fbB (sl3 12 (os.length+1)) ov,(12,.cells (cellsOf (os++[X])) 4)]++xC (some is)):=by
 have hkn:=(List.getElem?_eq_some_iff.1 hk).1;have w1:=aDc (i:=k) (by omega);have e1:cellsOf [X]=X.cs:=by show X.cs++[]=_;rw[List.append_nil]
 cases os with
 |nil=>refine⟨oa0,3,[6,12,4],?_⟩;refine(bY2 ..).trans ?_;rw[mQ hk hd];refine(cO (hin _ λu hu=>by simp[xC]at hu;simp[hu])).trans ?_;rw[aI,w1,kE hd,<-e1];rfl
 |cons o os=>have hc:=lI (o::os) X;refine⟨bXw,3,[6,8,12,4],?_⟩;refine(bY3 (j:=(o::os).length) ..).trans ?_;rw[mQ hk hd];refine(cO (hin _ λu hu=>by simp[xC]at hu;simp[hu])).trans ?_;rw[kE hd,qK (cL (o::os)).1 rfl rfl (by omega) (by omega)];show aG _ _ _=_;rw[aI,w1];show some (Ex.normal,_,_)=_;rw[hc];rfl
theorem cE0{R:Type}{zs:List (Nat×Nat)}{a b:Nat}(hl:zs.length<900000)(K:List V9->Option R):rAp P9 R 82 (bA zs) zs.length zs.length [.complex .f64 a b] 0 1 K=K (bA (zs++[(a,b)])):=by rw[zB (yF zs) (by omega),aD8];rfl
theorem cE5{is:List V9}{h1 h2:Nat}(hn:xs.length<900000)(hk:xs[k]?=some X)(hd:X.kind=2)(hsh:∀(R:Type)(K:KNN R),reH R X.s1 X.s2 K=K h1 h2)(hin:bG9 (some is) w k true)(os:List El)(hos:os.length<900000)(hs:List (Nat×Nat))(hhs:hs.length<900000)(hne:hs≠[]->os≠[]):
  ∃lim kd bo,bE (bDv lim kd true) 60 noL 1 180 fbA (fbE w (lv 9 hs.length) xs.length c x y k) ⟨10,[fbB (lv 8 os.length) ov]++obE 8 os++obC 9 hs++xC (some is)++[(0,.cells (cellsOf xs) sz)]⟩ (aU fbT bo λex e O=>some (ex,e,O)) =
   some (.normal,fbE w (sl3 14 (hs.length+1)) xs.length c x y (k+1:Nat),[fbB (sl3 12 (os.length+1)) ov,(12,.cells (cellsOf (os++[X])) 4),(14,.cells (bA (hs++[(h1,h2)])) 1)]++xC (some is)):=by
 have hkn:=(List.getElem?_eq_some_iff.1 hk).1;have w1:=aDc (i:=k) (by omega);have e1:cellsOf [X]=X.cs:=by show X.cs++[]=_;rw[List.append_nil]
 cases os with
 |nil=>
  cases hs with
  |cons z zs=>exact absurd rfl (hne (by simp))
  |nil=>refine⟨oa0,2,[6,12,14,4],?_⟩;refine(bR8 ..).trans ?_;rw[mQ hk hd];refine(cO (hin _ λu hu=>by simp[xC]at hu;simp[hu])).trans ?_;rw[hsh,aI,w1,kE hd,<-e1];rfl
 |cons o os=>
  have hc:=lI (o::os) X;cases hs with
  |nil=>refine⟨bXw,2,[6,8,12,14,4],?_⟩;refine(bR9 (j:=(o::os).length) ..).trans ?_;rw[mQ hk hd];refine(cO (hin _ λu hu=>by simp[xC]at hu;simp[hu])).trans ?_;rw[kE hd,qK (cL (o::os)).1 rfl rfl (by omega) (by omega)];show reH _ _ _ _=_;rw[hsh,aI,w1];show some (Ex.normal,_,_)=_;rw[hc];rfl
  |cons z zs=>refine⟨bTm,2,[6,8,9,12,14,4],?_⟩;refine(bSa (j:=(o::os).length) (l:=(z::zs).length) ..).trans ?_;rw[mQ hk hd];refine(cO (hin _ λu hu=>by simp[xC]at hu;simp[hu])).trans ?_;rw[kE hd,qK (cL (o::os)).1 rfl rfl (by omega) (by omega)];show reH _ _ _ _=_;rw[hsh,cE0 hhs];show aG _ _ _=_;rw[aI,w1];show some (Ex.normal,_,_)=_;rw[hc];rfl
end
section
variable{p:Nat->Option Nat}
theorem yB{b:Nat}(hp:p b=some b):∀n,nH p (lv b n)=some (lv b n)
 |0=>rfl
 |n+1=>by show(p b).bind _=_;rw[hp];rfl
theorem aBt{b:Nat}(hp:p b=some b):∀l,fD p (obE b l)=some (obE b l)
 |[]=>rfl
 |x::l=>by show fD p [(b,.cells (cellsOf (x::l)) 4)]=_;simp only[fD,pN,hp,D9,bQ (cL (x::l)).2.1];rfl
theorem aPz{b:Nat}(hp:p b=some b):∀l,fD p (obC b l)=some (obC b l)
 |[]=>rfl
 |x::l=>by show fD p [(b,.cells (bA (x::l)) 1)]=_;simp only[fD,pN,hp,D9,bQ (oO (x::l))];rfl
theorem aKb{ins:Option (List V9)}(hi:∀is,ins=some is->kZ 0 is=true)(hp:p 4=some 4):fD p (xC ins)=some (xC ins):=by
 cases ins with
 |none=>rfl
 |some is=>show fD p [(4,.cells is 1)]=_;simp only[fD,pN,hp,D9,bQ (hi is rfl)];rfl
theorem kM:∀{A B A2 B2:dF},fD p A=some A2->fD p B=some B2->fD p (A++B)=some (A2++B2)
 |[],B,A2,B2,h1,h2=>by cases h1;exact h2
 |(k,o)::A,B,A2,B2,h1,h2=>by simp only[fD]at h1;obtain⟨k',g1,h1⟩:=aB h1;obtain⟨o',g2,h1⟩:=aB h1;obtain⟨r,g3,h1⟩:=aB h1;cases h1;show((p k).bind λk=>(pN p o).bind λo=>(fD p (A++B)).bind λr=>some ((k,o)::r))=_;rw[g1,D9,g2,D9,kM g3 h2];rfl
end
def fbS(c1 c2 r:Nat):dF:=[(5,.map .u8 aUw),(3,.cells [.complex .f64 0 0,.float .f64 0] 0),(2,.cells [.complex .f64 c1 c2,.float .f64 r] 0)]
theorem aKa{p:Nat->Option Nat}{c1 c2 r:Nat}(h5:p 5=some 5)(h3:p 3=some 3)(h2:p 2=some 2):fD p (fbS c1 c2 r)=some (fbS c1 c2 r):=by unfold fbS;simp only[fD,h5,h3,h2,D9];rfl
def mtS:bCs:=⟨[],[],[]⟩
section
variable{ins:Option (List V9)}{xs:List El}{w:V9}{c x y sz k c1 c2 r:Nat}{X:El}{S:bCs}
structure aNu(ins:Option (List V9))(w:V9):Prop where
 flat:∀is,ins=some is->kZ 0 is=true
 ren:∀p:Nat->Option Nat,p 4=some 4->nH p w=some w
theorem aJ9{p:Nat->Option Nat}{sv sv2:V9}{n:Nat}{i:Int}(hw:aNu ins w)(h4:p 4=some 4)(h0:p 0=some 0)(h6:p 6=some 6)(h2:p 2=some 2)(h3:p 3=some 3)(hs:nH p sv=some sv2):bFs p (fbE w sv n c x y i)=some (fbE w sv2 n c x y i):=by unfold fbE;simp only[bFs,hw.ren p h4,hs,D9];simp only[nH,h0,h6,h2,h3,D9]
theorem bDw:(⟨7,fbK ins mtS c1 c2 r (cellsOf xs) sz⟩:AH).objs=fbD ins mtS c1 c2 r++[(0,.cells (cellsOf xs) sz)]:=rfl
theorem aRl:geB 1 (fbD ins mtS c1 c2 r)=true:=by cases ins<;>rfl
theorem aIx(hi:aNu ins w)(hn:xs.length<900000)(hk:xs[k]?=some X)(hkd:X.kind=1\/X.kind=4\/((X.kind=2\/X.kind=3)/\bG9 ins w k false))(hos:S.os.length<900000):
  cI P9 1 180 ⟨7,fbK ins mtS c1 c2 r (cellsOf xs) sz⟩ (fbE w (lv 9 S.hs.length) xs.length c x y k) ⟨10,fbK ins S c1 c2 r (cellsOf xs) sz⟩ .normal (fbE w (lv 9 S.hs.length) xs.length c x y (k+1:Nat)) ⟨10,fbK ins { S with os:=S.os++[X] } c1 c2 r (cellsOf xs) sz⟩ (λQ a w=>fbA.wp P9 Q a w):=by
 obtain⟨lim,kd,bo,e⟩:=cE4 (sv:=lv 9 S.hs.length) (iv:=lv 8 S.is.length) (c:=c) (x:=x) (y:=y) (sz:=sz) hn hk hkd S.os hos;have h:=oE (C:=bDv lim kd false) (H0:=⟨7,fbK ins mtS c1 c2 r (cellsOf xs) sz⟩) (F:=obE 8 S.is++obC 9 S.hs++fbS c1 c2 r) (E:=[]) (bs:=[12,8,9]) (e2:=fbE w (lv 9 S.hs.length) xs.length c x y (k+1:Nat))
  (A:=[fbB (lv 8 S.is.length) (sl3 7 (S.os.length+1)),(7,.cells (cellsOf (S.os++[X])) 4)]++xC ins++(obE 8 S.is++obC 9 S.hs++fbS c1 c2 r)) (B:=[(0,.cells (cellsOf xs) sz)]) (D:=fbD ins mtS c1 c2 r)
  (aIw _ _ _) aO (by rw[aC7];intro a ha;simp at ha) e (by cases ins<;>cases S.os<;>cases S.is<;>cases S.hs<;>rfl) (aJ9 hi rfl rfl rfl rfl rfl (yB (p:=gK 7 [12,8,9]) (b:=9) rfl _))
  (by refine kM (kM ?_ (aKb hi.flat rfl)) (kM (kM (aBt (p:=gK 7 [12,8,9]) (b:=8) rfl _) (aPz (p:=gK 7 [12,8,9]) (b:=9) rfl _)) (aKa rfl rfl rfl));show fD _ [(6,.cells [lv 8 S.is.length,sl3 12 (S.os.length+1),.map (some 5)] 0),(12,.cells (cellsOf (S.os++[X])) 4)]=_;simp only[fD,pN,qJ,yB (p:=gK 7 [12,8,9]) (b:=8) rfl,bQ (cL (S.os++[X])).2.1,D9];rfl) rfl bDw rfl (by cases ins<;>cases S.is<;>cases S.hs<;>rfl) aRl
 have e7:obE 7 (S.os++[X])=[(7,.cells (cellsOf (S.os++[X])) 4)]:=by cases S.os<;>rfl
 have l7:lv 7 (S.os++[X]).length=sl3 7 (S.os.length+1):=by rw[List.length_append];rfl
 refine cI.same h (λu=>?_) (λu=>?_);· unfold fbK fbD fbY fbS;simp only[List.mem_append,List.mem_cons,List.not_mem_nil,or_false];grind
 ·unfold fbK fbD fbY fbS;simp only[e7,l7,List.mem_append,List.mem_cons,List.not_mem_nil,or_false];grind
theorem aX9{is:List V9}(hi:aNu (some is) w)(hn:xs.length<900000)(hk:xs[k]?=some X)(hkd:X.kind=3)(hin:bG9 (some is) w k true)(hos:S.is.length<900000):
  cI P9 1 180 ⟨7,fbK (some is) mtS c1 c2 r (cellsOf xs) sz⟩ (fbE w (lv 9 S.hs.length) xs.length c x y k) ⟨10,fbK (some is) S c1 c2 r (cellsOf xs) sz⟩ .normal (fbE w (lv 9 S.hs.length) xs.length c x y (k+1:Nat)) ⟨10,fbK (some is) { S with is:=S.is++[X] } c1 c2 r (cellsOf xs) sz⟩ (λQ a w=>fbA.wp P9 Q a w):=by
 obtain⟨lim,kd,bo,e⟩:=cE3 (sv:=lv 9 S.hs.length) (ov:=lv 7 S.os.length) (c:=c) (x:=x) (y:=y) (sz:=sz) hn hk hkd hin S.is hos;have h:=oE (C:=bDv lim kd true) (H0:=⟨7,fbK (some is) mtS c1 c2 r (cellsOf xs) sz⟩) (F:=obE 7 S.os++obC 9 S.hs++fbS c1 c2 r) (E:=[]) (bs:=[7,12,9]) (e2:=fbE w (lv 9 S.hs.length) xs.length c x y (k+1:Nat))
  (A:=[fbB (sl3 8 (S.is.length+1)) (lv 7 S.os.length),(8,.cells (cellsOf (S.is++[X])) 4)]++xC (some is)++(obE 7 S.os++obC 9 S.hs++fbS c1 c2 r)) (B:=[(0,.cells (cellsOf xs) sz)]) (D:=fbD (some is) mtS c1 c2 r)
  (aIw _ _ _) aO (by rw[aC7];intro a ha;simp at ha) e (by cases S.os<;>cases S.is<;>cases S.hs<;>rfl) (aJ9 hi rfl rfl rfl rfl rfl (yB (p:=gK 7 [7,12,9]) (b:=9) rfl _))
  (by refine kM (kM ?_ (aKb hi.flat rfl)) (kM (kM (aBt (p:=gK 7 [7,12,9]) (b:=7) rfl _) (aPz (p:=gK 7 [7,12,9]) (b:=9) rfl _)) (aKa rfl rfl rfl));show fD _ [(6,.cells [sl3 12 (S.is.length+1),lv 7 S.os.length,.map (some 5)] 0),(12,.cells (cellsOf (S.is++[X])) 4)]=_;simp only[fD,pN,qJ,yB (p:=gK 7 [7,12,9]) (b:=7) rfl,bQ (cL (S.is++[X])).2.1,D9];rfl) rfl bDw rfl (by cases S.os<;>cases S.hs<;>rfl) aRl
 have e7:obE 8 (S.is++[X])=[(8,.cells (cellsOf (S.is++[X])) 4)]:=by cases S.is<;>rfl
 have l7:lv 8 (S.is++[X]).length=sl3 8 (S.is.length+1):=by rw[List.length_append];rfl
 refine cI.same h (λu=>?_) (λu=>?_);· unfold fbK fbD fbY fbS;simp only[List.mem_append,List.mem_cons,List.not_mem_nil,or_false];grind
 ·unfold fbK fbD fbY fbS;simp only[e7,l7,List.mem_append,List.mem_cons,List.not_mem_nil,or_false];grind
theorem aYa{is:List V9}{h1 h2:Nat}(hi:aNu (some is) w)(hn:xs.length<900000)(hk:xs[k]?=some X)(hkd:X.kind=2)(hsh:∀(R:Type)(K:KNN R),reH R X.s1 X.s2 K=K h1 h2)(hin:bG9 (some is) w k true)(hos:S.is.length<900000)(hhs:S.hs.length<900000)(hne:S.hs≠[]->S.is≠[]):
  cI P9 1 180 ⟨7,fbK (some is) mtS c1 c2 r (cellsOf xs) sz⟩ (fbE w (lv 9 S.hs.length) xs.length c x y k) ⟨10,fbK (some is) S c1 c2 r (cellsOf xs) sz⟩ .normal (fbE w (lv 9 (S.hs++[(h1,h2)]).length) xs.length c x y (k+1:Nat)) ⟨10,fbK (some is) { S with is:=S.is++[X],hs:=S.hs++[(h1,h2)] } c1 c2 r (cellsOf xs) sz⟩ (λQ a w=>fbA.wp P9 Q a w):=by
 obtain⟨lim,kd,bo,e⟩:=cE5 (ov:=lv 7 S.os.length) (c:=c) (x:=x) (y:=y) (sz:=sz) hn hk hkd hsh hin S.is hos S.hs hhs hne;have l9:lv 9 (S.hs++[(h1,h2)]).length=sl3 9 (S.hs.length+1):=by rw[List.length_append];rfl
 have h:=oE (C:=bDv lim kd true) (H0:=⟨7,fbK (some is) mtS c1 c2 r (cellsOf xs) sz⟩) (F:=obE 7 S.os++fbS c1 c2 r) (E:=[]) (bs:=[7,12,14]) (e2:=fbE w (sl3 9 (S.hs.length+1)) xs.length c x y (k+1:Nat))
  (A:=[fbB (sl3 8 (S.is.length+1)) (lv 7 S.os.length),(8,.cells (cellsOf (S.is++[X])) 4),(9,.cells (bA (S.hs++[(h1,h2)])) 1)]++xC (some is)++(obE 7 S.os++fbS c1 c2 r)) (B:=[(0,.cells (cellsOf xs) sz)]) (D:=fbD (some is) mtS c1 c2 r)
  (aIw _ _ _) aO (by rw[aC7];intro a ha;simp at ha) e (by cases S.os<;>cases S.is<;>cases S.hs<;>rfl) (aJ9 hi rfl rfl rfl rfl rfl rfl)
  (by refine kM (kM ?_ (aKb hi.flat rfl)) (kM (aBt (p:=gK 7 [7,12,14]) (b:=7) rfl _) (aKa rfl rfl rfl));show fD _ [(6,.cells [sl3 12 (S.is.length+1),lv 7 S.os.length,.map (some 5)] 0),(12,.cells (cellsOf (S.is++[X])) 4),(14,.cells (bA (S.hs++[(h1,h2)])) 1)]=_;simp only[fD,pN,qJ,yB (p:=gK 7 [7,12,14]) (b:=7) rfl,bQ (cL (S.is++[X])).2.1,bQ (oO (S.hs++[(h1,h2)])),D9];rfl) rfl bDw rfl (by cases S.os<;>rfl) aRl
 have e7:obE 8 (S.is++[X])=[(8,.cells (cellsOf (S.is++[X])) 4)]:=by cases S.is<;>rfl
 have e9:obC 9 (S.hs++[(h1,h2)])=[(9,.cells (bA (S.hs++[(h1,h2)])) 1)]:=by cases S.hs<;>rfl
 have l7:lv 8 (S.is++[X]).length=sl3 8 (S.is.length+1):=by rw[List.length_append];rfl
 rw[l9];refine cI.same h (λu=>?_) (λu=>?_);· unfold fbK fbD fbY fbS;simp only[List.mem_append,List.mem_cons,List.not_mem_nil,or_false];grind
 ·unfold fbK fbD fbY fbS;simp only[e7,e9,l7,List.mem_append,List.mem_cons,List.not_mem_nil,or_false];grind
end
def vW(b:Bool)(X:El)(h:Nat×Nat)(S:bCs):bCs:=
 bif b&&X.kind==3 then{ S with is:=S.is++[X] } else bif b&&X.kind==2 then{ S with is:=S.is++[X],hs:=S.hs++[h] } else{ S with os:=S.os++[X] }
def oI(xs:List El)(inn:Nat->Bool)(sh:El->Nat×Nat):Nat->bCs
 |0=>mtS
 |k+1=>match xs[k]? with
  |some X=>vW (inn k) X (sh X) (oI xs inn sh k)
  |none=>oI xs inn sh k
theorem bBt(b:Bool)(X:El)(h:Nat×Nat)(S:bCs):(vW b X h S).os.length<=S.os.length+1/\(vW b X h S).is.length<=S.is.length+1/\(vW b X h S).hs.length<=S.hs.length+1:=by
 unfold vW;cases b&&X.kind==3 with
 |true=>simp
 |false=>
  cases b&&X.kind==2 with
  |true=>simp
  |false=>simp
theorem aIi(xs:List El)(inn:Nat->Bool)(sh:El->Nat×Nat):∀k,(oI xs inn sh k).os.length<=k/\(oI xs inn sh k).is.length<=k/\(oI xs inn sh k).hs.length<=k
 |0=>⟨Nat.le_refl _,Nat.le_refl _,Nat.le_refl _⟩
 |k+1=>by
  have ih:=aIi xs inn sh k;unfold oI;split;· rename_i X _;have:=bBt (inn k) X (sh X) (oI xs inn sh k);omega
  ·omega
theorem aIh(xs:List El)(inn:Nat->Bool)(sh:El->Nat×Nat):∀k,(oI xs inn sh k).hs≠[]->(oI xs inn sh k).is≠[]
 |0,h=>absurd rfl h
 |k+1,h=>by
  have ih:=aIh xs inn sh k;unfold oI at h⊢;split
  ·rename_i X e;rw[e]at h;simp only at h⊢;unfold vW at h⊢;cases c1:inn k&&X.kind==3 with
   |true=>simp
   |false=>
    rw[c1]at h;simp only[F7]at h⊢;cases c2:inn k&&X.kind==2 with
    |true=>simp
    |false=>rw[c2]at h;exact ih h
  ·rename_i e;rw[e]at h;exact ih h
section
variable{ins:Option (List V9)}{xs:List El}{w sv iv:V9}{c x y sz k c1 c2 r:Nat}{S:bCs}
theorem aIv{R:Type}{n:Nat}{kd:Int}(E:Option R)(Y:Nat->Nat->Nat->Nat->Nat->Option R):fbI (rQ kd) (cellsOf xs) n n E Y=E:=by unfold fbI;rw[E7 (by omega),F7]
theorem bY4(os:List El):
  ∃lim kd bo,bE (bDv lim kd false) 60 noL 1 180 fbA (fbE w sv xs.length c x y xs.length) ⟨10,[fbB iv (lv 7 os.length)]++obE 7 os++xC ins++[(0,.cells (cellsOf xs) sz)]⟩ (aU fbT bo λex e O=>some (ex,e,O)) =
   some (.exit 0,fbE w sv xs.length c x y xs.length,[fbB iv (lv 7 os.length)]++obE 7 os++xC ins):=by
 cases os with
 |nil=>
  cases ins with
  |some is=>refine⟨oa0,1,[6,12,4],?_⟩;refine(aX5 aG (rQ 1) rSt (rAp P9) jJ dV gJ reH sU jK eQ aP dG gF (fJ P9 66 (.bool false)) (cellsOf xs) is sz xs.length c xs.length x y w sv iv _ _).trans ?_;rw[aIv];rfl
  |none=>refine⟨oa0,1,[6,12],?_⟩;refine(aX6 aG (rQ 1) rSt (rAp P9) jJ dV gJ reH sU jK eQ aP dG gF (fJ P9 66 (.bool false)) (cellsOf xs) sz xs.length c xs.length x y w sv iv _ _).trans ?_;rw[aIv];rfl
 |cons o os=>
  cases ins with
  |some is=>refine⟨aKz,1,[6,7,12,4],?_⟩;refine(aX7 aG (rQ 1) rSt (rAp P9) jJ dV gJ reH sU jK eQ aP dG gF (fJ P9 66 (.bool false)) (cellsOf xs) (cellsOf (o::os)) is sz xs.length c xs.length x y (o::os).length w sv iv _ _).trans ?_;rw[aIv];rfl
  |none=>refine⟨aKz,1,[6,7,12],?_⟩;refine(aX8 aG (rQ 1) rSt (rAp P9) jJ dV gJ reH sU jK eQ aP dG gF (fJ P9 66 (.bool false)) (cellsOf xs) (cellsOf (o::os)) sz xs.length c xs.length x y (o::os).length w sv iv _ _).trans ?_;rw[aIv];rfl
theorem bK9(hi:aNu ins w):
  cI P9 1 180 ⟨7,fbK ins mtS c1 c2 r (cellsOf xs) sz⟩ (fbE w (lv 9 S.hs.length) xs.length c x y xs.length) ⟨10,fbK ins S c1 c2 r (cellsOf xs) sz⟩ (.exit 0) (fbE w (lv 9 S.hs.length) xs.length c x y xs.length) ⟨10,fbK ins S c1 c2 r (cellsOf xs) sz⟩ (λQ a w=>fbA.wp P9 Q a w):=by
 obtain⟨lim,kd,bo,e⟩:=bY4 (ins:=ins) (xs:=xs) (w:=w) (sv:=lv 9 S.hs.length) (iv:=lv 8 S.is.length) (c:=c) (x:=x) (y:=y) (sz:=sz) S.os;have h:=oE (C:=bDv lim kd false) (H0:=⟨7,fbK ins mtS c1 c2 r (cellsOf xs) sz⟩) (F:=obE 8 S.is++obC 9 S.hs++fbS c1 c2 r) (E:=[]) (bs:=[7,8,9]) (e2:=fbE w (lv 9 S.hs.length) xs.length c x y xs.length)
  (A:=[fbB (lv 8 S.is.length) (lv 7 S.os.length)]++obE 7 S.os++xC ins++(obE 8 S.is++obC 9 S.hs++fbS c1 c2 r)) (B:=[(0,.cells (cellsOf xs) sz)]) (D:=fbD ins mtS c1 c2 r)
  (aIw _ _ _) aO (by rw[aC7];intro a ha;simp at ha) e (by cases ins<;>cases S.os<;>cases S.is<;>cases S.hs<;>rfl) (aJ9 hi rfl rfl rfl rfl rfl (yB (p:=gK 7 [7,8,9]) (b:=9) rfl _))
  (by refine kM (kM (kM ?_ (aBt (p:=gK 7 [7,8,9]) (b:=7) rfl _)) (aKb hi.flat rfl)) (kM (kM (aBt (p:=gK 7 [7,8,9]) (b:=8) rfl _) (aPz (p:=gK 7 [7,8,9]) (b:=9) rfl _)) (aKa rfl rfl rfl));show fD _ [(6,.cells [lv 8 S.is.length,lv 7 S.os.length,.map (some 5)] 0)]=_;simp only[fD,pN,qJ,yB (p:=gK 7 [7,8,9]) (b:=8) rfl,yB (p:=gK 7 [7,8,9]) (b:=7) rfl,D9];rfl) rfl bDw rfl (by cases ins<;>cases S.os<;>cases S.is<;>cases S.hs<;>rfl) aRl
 refine cI.same h (λu=>?_) (λu=>?_);· unfold fbK fbD fbY fbS;simp only[List.mem_append,List.mem_cons,List.not_mem_nil,or_false];grind
 ·unfold fbK fbD fbY fbS;simp only[List.mem_append,List.mem_cons,List.not_mem_nil,or_false];grind
structure Fb1(ins:Option (List V9))(xs:List El)(w:V9)(inn:Nat->Bool)(sh:El->Nat×Nat):Prop where
 ok:aNu ins w
 kind:∀(k:Nat)(X:El),xs[k]?=some X->X.kind=1\/X.kind=4\/X.kind=2\/X.kind=3
 cont:∀(k:Nat)(X:El),xs[k]?=some X->X.kind=2\/X.kind=3->bG9 ins w k (inn k)
 has:∀(k:Nat)(X:El),xs[k]?=some X->X.kind=2\/X.kind=3->inn k=true->∃is,ins=some is
 share:∀(k:Nat)(X:El),xs[k]?=some X->X.kind=2->∀(R:Type)(K:KNN R),reH R X.s1 X.s2 K=K (sh X).1 (sh X).2
theorem aL0{inn:Nat->Bool}{sh:El->Nat×Nat}(T:Fb1 ins xs w inn sh)(hn:xs.length<900000):
  dH P9 1 180 ⟨7,fbK ins mtS c1 c2 r (cellsOf xs) sz⟩ fbA (fbE w bL xs.length c x y (0:Nat)) ⟨7,fbK ins mtS c1 c2 r (cellsOf xs) sz⟩ (.exit 0) (fbE w (lv 9 (oI xs inn sh xs.length).hs.length) xs.length c x y xs.length) ⟨10,fbK ins (oI xs inn sh xs.length) c1 c2 r (cellsOf xs) sz⟩:=by
 have h:=fQ (P:=P9) (lo:=1) (sz:=180) (a:=fbA) (H0:=⟨7,fbK ins mtS c1 c2 r (cellsOf xs) sz⟩) (E:=λk:Nat=>fbE w (lv 9 (oI xs inn sh k).hs.length) xs.length c x y k) (H:=λk=>⟨10,fbK ins (oI xs inn sh k) c1 c2 r (cellsOf xs) sz⟩) (ex:=.exit 0) (e':=fbE w (lv 9 (oI xs inn sh xs.length).hs.length) xs.length c x y xs.length) (H':=⟨10,fbK ins (oI xs inn sh xs.length) c1 c2 r (cellsOf xs) sz⟩) xs.length 0 (λk _ hk=>by
  have hk':=List.getElem?_eq_getElem (show k<xs.length by omega);generalize xs[k]'(by omega)=X at hk';have l:=aIi xs inn sh k;have kd:=T.kind k X hk';have es:oI xs inn sh (k+1)=vW (inn k) X (sh X) (oI xs inn sh k):=by show(match xs[k]? with|some X=>_|none=>_)=_;rw[hk']
  simp only[es];have other:(inn k&&X.kind==3)=false->(inn k&&X.kind==2)=false->cI P9 1 180 ⟨7,fbK ins mtS c1 c2 r (cellsOf xs) sz⟩ (fbE w (lv 9 (oI xs inn sh k).hs.length) xs.length c x y k) ⟨10,fbK ins (oI xs inn sh k) c1 c2 r (cellsOf xs) sz⟩ .normal (fbE w (lv 9 (vW (inn k) X (sh X) (oI xs inn sh k)).hs.length) xs.length c x y (k+1:Nat)) ⟨10,fbK ins (vW (inn k) X (sh X) (oI xs inn sh k)) c1 c2 r (cellsOf xs) sz⟩ (λQ a w=>fbA.wp P9 Q a w):=λa1 a2=>by
   unfold vW;rw[a1,a2];simp only[F7];refine aIx T.ok hn hk' ?_ (by omega);rcases kd with h|h|h|h;· exact .inl h
   ·exact .inr (.inl h)
   ·refine .inr (.inr ⟨.inl h,?_⟩);have:=T.cont k X hk' (.inl h);rw[h]at a2;have e:inn k=false:=by simpa using a2
    rwa[e]at this
   ·refine .inr (.inr ⟨.inr h,?_⟩);have:=T.cont k X hk' (.inr h);rw[h]at a1;have e:inn k=false:=by simpa using a1
    rwa[e]at this
  cases hb:inn k with
  |false=>rw[hb]at other;exact other rfl rfl
  |true=>
   rw[hb]at other;rcases kd with h|h|h|h;· exact other (by rw[h];rfl) (by rw[h];rfl)
   ·exact other (by rw[h];rfl) (by rw[h];rfl)
   ·obtain⟨is,e⟩:=T.has k X hk' (.inl h) hb;subst e;have hin:=T.cont k X hk' (.inl h);rw[hb]at hin;have st:vW true X (sh X) (oI xs inn sh k)={ oI xs inn sh k with is:=(oI xs inn sh k).is++[X],hs:=(oI xs inn sh k).hs++[sh X] }:=by unfold vW;rw[h];rfl
    rw[st];exact aYa (h1:=(sh X).1) (h2:=(sh X).2) T.ok hn hk' h (T.share k X hk' h) hin (by omega) (by omega) (aIh xs inn sh k)
   ·obtain⟨is,e⟩:=T.has k X hk' (.inr h) hb;subst e;have hin:=T.cont k X hk' (.inr h);rw[hb]at hin;have st:vW true X (sh X) (oI xs inn sh k)={ oI xs inn sh k with is:=(oI xs inn sh k).is++[X] }:=by unfold vW;rw[h];rfl
    rw[st];exact aX9 T.ok hn hk' h hin (by omega)) (gY (by intro h;cases h) (by simp only[Nat.zero_add];exact bK9 T.ok))
 obtain⟨m,h⟩:=h;exact⟨m,cI.bump h (by decide)⟩
end
end Go.Vm
