/- A part; no conditions. -/
import Derived.Test.YtaogignikkjkjaaGreatVmTA1
set_option maxRecDepth 1000000
set_option maxHeartbeats 1000000
set_option linter.all false
open Go.Proofs.Tryz renaming prog->P9
open Option renaming bind_some->D9
namespace Go.Vm
open Go.Proofs
noncomputable def sqR(lim:Nat->Bool)(gl:List (Nat×vP)):Cx:=sqC lim aG rEl rSt (rAp P9) sgK (siC (aGb gJ cQ)) dvK gF reH sU dV eQ aP gl
theorem mS(lim:Nat->Bool){gl:List (Nat×vP)}(hg:aWj P9 gl):(sqR lim gl).Ok:=
 lS jR (.cons cF1 cFl (.cons cD2 cC9 (.cons cF2 cFm (.cons cEe cDo (.cons cDv cC1 (.cons k86 h86 (.cons k22 h22 (.cons k39 h39 (.cons k93 h93 .nil))))))))) lY hg .nil (jX bXy)
theorem lF:fP sqB=[]:=by kernel_rfl
structure SqD where
 wi:El->Bool
 pw:El->Int
 dv:El->El->Nat×Nat
 qv:El->Nat×Nat
 f:El->Nat->Nat×Nat
namespace SqD
variable(D:SqD)
def oZ(x:El)(xs:List El)(k:Nat):List (Nat×Nat):=((xs.take k).filter λy=>!D.wi y).map (D.dv x)
def lZ(xs:List El)(k:Nat):List (Nat×Nat):=((xs.take k).filter D.wi).map D.qv
theorem oZ_step{x:El}{xs:List El}{k:Nat}{y:El}(hk:xs[k]?=some y):D.oZ x xs (k+1)=bif D.wi y then D.oZ x xs k else D.oZ x xs k++[D.dv x y]:=by
 unfold oZ;rw[List.take_add_one,hk,List.filter_append,List.map_append];cases h:D.wi y with
 |true=>simp[h]
 |false=>simp[h]
theorem lZ_step{xs:List El}{k:Nat}{y:El}(hk:xs[k]?=some y):D.lZ xs (k+1)=bif D.wi y then D.lZ xs k++[D.qv y] else D.lZ xs k:=by
 unfold lZ;rw[List.take_add_one,hk,List.filter_append,List.map_append];cases h:D.wi y with
 |true=>simp[h]
 |false=>simp[h]
theorem oZ_len{x:El}{xs:List El}(k:Nat):(D.oZ x xs k).length<=k:=by unfold oZ;rw[List.length_map];have:=List.length_filter_le (λy=>!D.wi y) (xs.take k);rw[List.length_take]at this;omega
theorem lZ_len{xs:List El}(k:Nat):(D.lZ xs k).length<=k:=by unfold lZ;rw[List.length_map];have:=List.length_filter_le D.wi (xs.take k);rw[List.length_take]at this;omega
end SqD
def bJ1(c1 c2 r:Nat)(b:Bool)(x:El):Prop:=∀(R:Type)(yes no:Option R),wiX sgK (siC (aGb gJ cQ)) x.kind x.a1 x.a2 x.s1 x.s2 x.p c1 c2 r yes no=bif b then yes else no
def bCt(x:El)(pw:Int)(y:El)(v:Nat×Nat):Prop:=∀(R:Type)(k:KNN R),dvK R y.kind y.a1 y.a2 y.s1 y.s2 y.p x.a1 x.a2 pw k=k v.1 v.2
def bQ2(x:El)(pw:Int)(z q:Nat×Nat):Prop:=∀(R:Type)(k:KNN R),
 (bif x.kind==2 then reH R x.s1 x.s2 λu1 u2=>dV R u1 u2 z.1 z.2 k
  else sU R x.s1 x.s2 λu1 u2=>dV R u1 u2 z.1 z.2 λv1 v2=>gF R 1 (pw-1) λw=>aM (fbF .quo 4607182418800017408 w) λw=>eQ R v1 v2 w k)=k q.1 q.2
structure bYg(D:SqD)(c1 c2 r:Nat)(xs:List El):Prop where
 wi:∀x∈xs,bJ1 c1 c2 r (D.wi x) x
 pw:∀x∈xs,D.wi x=true->floatToIntVal .f64 x.p .i64=some (D.pw x)/\0<=D.pw x/\D.pw x<=1000
 dv:∀x∈xs,D.wi x=true->∀y∈xs,D.wi y=false->bCt x (D.pw x) y (D.dv x y)
 f:∀x∈xs,D.wi x=true->aGf (D.oZ x xs xs.length) (D.f x)
 qv:∀x∈xs,D.wi x=true->bQ2 x (D.pw x) (D.f x (D.oZ x xs xs.length).length) (D.qv x)
def oSq(ob:Nat)(zs:List (Nat×Nat)):Value:=match zs with | []=>bL|_::_=>sl3 ob zs.length
abbrev xg(x:El)(n c c1 c2 r:Nat):dF:=xb 3 x.kind x.a1 x.a2 x.s1 x.s2 x.p::abD n c c1 c2 r
abbrev xf(x:El)(lz:List (Nat×Nat))(n c c1 c2 r:Nat):dF:=xb 4 x.kind x.a1 x.a2 x.s1 x.s2 x.p::(3,.cells (bA lz) 1)::abD n c c1 c2 r
def oHq(nx ob:Nat)(D:dF)(cs:List Value)(sz:Nat)(zs:List (Nat×Nat)):AH:=match zs with | []=>⟨nx,D++[(0,.cells cs sz)]⟩|_::_=>⟨ob+1,D++[(ob,.cells (bA zs) 1),(0,.cells cs sz)]⟩
def lHq(n c c1 c2 r:Nat)(cs:List Value)(sz:Nat)(zs:List (Nat×Nat)):AH:=match zs with | []=>⟨3,abD n c c1 c2 r++[(0,.cells cs sz)]⟩|_::_=>⟨4,(3,.cells (bA zs) 1)::abD n c c1 c2 r++[(0,.cells cs sz)]⟩
section
variable{cs:List Value}{sz c c1 c2 r:Nat}{xs:List El}{D:SqD}
theorem bUc{zs:List (Nat×Nat)}{f:Nat->Nat×Nat}{D:dF}(hf:aGf zs f)(hn:zs.length<900000):aD P9 44 [oSq 7 zs] (oHq 4 7 D cs sz zs) (.complex .f64 (f zs.length).1 (f zs.length).2):=by
 cases zs with
 |nil=>show aD P9 44 [bL] _ (.complex .f64 (f 0).1 (f 0).2);rw[hf.zero];exact xP
 |cons z zs=>exact aD.one (b:=7) (pS (sz:=1) (c:=(z::zs).length) (mG (z::zs)) hn hf) (jW _) (by show _∈D++[_,_];simp) rfl
theorem bEc(x:El)(pw:Int)(h:Nat)(hx:uP cs 0 xs)(hn:xs.length<900000){k:Nat}{y:El}(hk:xs[k]?=some y)(hw:bJ1 c1 c2 r (D.wi y) y)(hd:D.wi y=false->bCt x pw y (D.dv x y)):
  cI P9 1 89 ⟨4,(xg x xs.length c c1 c2 r)++[(0,.cells cs sz)]⟩ (siE xs.length c 3 pw bL h (oSq 7 (D.oZ x xs k)) k) (oHq 4 7 (xg x xs.length c c1 c2 r) cs sz (D.oZ x xs k)) .normal
   (siE xs.length c 3 pw bL h (oSq 7 (D.oZ x xs (k+1))) (k+1:Nat)) (oHq 4 7 (xg x xs.length c c1 c2 r) cs sz (D.oZ x xs (k+1))) (λQ a w=>sqB.wp P9 Q a w):=by
 have hkn:=(List.getElem?_eq_some_iff.1 hk).1;have hl:=D.oZ_len (x:=x) (xs:=xs) k;rw[D.oZ_step hk];generalize D.oZ x xs k=js at hl;have hg:=λ(R:Type)(K:Int->Nat->Nat->Nat->Nat->Nat->Option R)=>uH hx hk R K
 cases js with
 |nil=>
  cases hb:D.wi y with
  |true=>
   show cI P9 1 89 _ (siE xs.length c 3 pw bL h bL k) ⟨4,(xg x xs.length c c1 c2 r)++[(0,.cells cs sz)]⟩ _ (siE xs.length c 3 pw bL h bL (k+1:Nat)) ⟨4,(xg x xs.length c c1 c2 r)++[(0,.cells cs sz)]⟩ _;exact bK (C:=sqR sG []) (H0:=⟨4,(xg x xs.length c c1 c2 r)++[(0,.cells cs sz)]⟩) (e:=(siE xs.length c 3 pw bL h bL k)) (H:=⟨4,(xg x xs.length c c1 c2 r)++[(0,.cells cs sz)]⟩) (n:=60) (ts:=siT) (bo:=[3,2,1,6]) (bs:=[])
    (A:=(xg x xs.length c c1 c2 r)) (B:=[(0,.cells cs sz)]) (D:=(xg x xs.length c c1 c2 r)) (e1:=(siE xs.length c 3 pw bL h bL (k+1:Nat))) (O1:=(xg x xs.length c c1 c2 r)) (mS _ .nil) aO lF
    (by
     unfold sqR;refine(aZe ..).trans ?_;rw[D7 (show(k:Int)<xs.length by omega),T7,jN,T7,hg,hw,hb,T7,aI,fN (by omega)]) rfl
    (by simp only[xb,abD,List.cons_append,List.nil_append,fD,pN,qJ,nH];rfl) rfl rfl rfl rfl rfl
  |false=>
   have hd:=hd hb;show cI P9 1 89 _ (siE xs.length c 3 pw bL h bL k) ⟨4,(xg x xs.length c c1 c2 r)++[(0,.cells cs sz)]⟩ _ (siE xs.length c 3 pw bL h (sl3 7 1) (k+1:Nat)) ⟨8,(xg x xs.length c c1 c2 r)++[(7,.cells [.complex .f64 (D.dv x y).1 (D.dv x y).2] 1),(0,.cells cs sz)]⟩ _;exact bK (C:=sqR sG []) (H0:=⟨4,(xg x xs.length c c1 c2 r)++[(0,.cells cs sz)]⟩) (e:=(siE xs.length c 3 pw bL h bL k)) (H:=⟨4,(xg x xs.length c c1 c2 r)++[(0,.cells cs sz)]⟩) (n:=60) (ts:=siT) (bo:=[3,2,1,6]) (bs:=[7,8,9,6])
    (A:=(xg x xs.length c c1 c2 r)++[(7,.cells [.complex .f64 (D.dv x y).1 (D.dv x y).2] 1)]) (B:=[(0,.cells cs sz)]) (D:=(xg x xs.length c c1 c2 r)) (e1:=(siE xs.length c 3 pw bL h (sl3 6 1) (k+1:Nat))) (O1:=(xg x xs.length c c1 c2 r)++[(6,.cells [.complex .f64 (D.dv x y).1 (D.dv x y).2] 1)]) (mS _ .nil) aO lF
    (by
     unfold sqR;refine(aZe ..).trans ?_;rw[D7 (show(k:Int)<xs.length by omega),T7,jN,T7,hg,hw,hb,F7,hd,aI,fN (by omega)]) rfl
    (by simp only[xb,abD,List.cons_append,List.nil_append,fD,pN,qJ,nH];rfl) rfl rfl rfl rfl rfl
 |cons j0 js=>
  have hl':(j0::js).length<900000:=by omega
  cases hb:D.wi y with
  |true=>
   show cI P9 1 89 _ (siE xs.length c 3 pw bL h (sl3 7 (j0::js).length) k) ⟨8,(xg x xs.length c c1 c2 r)++[(7,.cells (bA (j0::js)) 1),(0,.cells cs sz)]⟩ _ (siE xs.length c 3 pw bL h (sl3 7 (j0::js).length) (k+1:Nat)) ⟨8,(xg x xs.length c c1 c2 r)++[(7,.cells (bA (j0::js)) 1),(0,.cells cs sz)]⟩ _;exact bK (C:=sqR sG []) (H0:=⟨4,(xg x xs.length c c1 c2 r)++[(0,.cells cs sz)]⟩) (e:=(siE xs.length c 3 pw bL h (sl3 7 (j0::js).length) k)) (H:=⟨8,(xg x xs.length c c1 c2 r)++[(7,.cells (bA (j0::js)) 1),(0,.cells cs sz)]⟩) (n:=60) (ts:=siT) (bo:=[3,2,1,7]) (bs:=[4,5,6,7])
    (A:=(xg x xs.length c c1 c2 r)++[(7,.cells (bA (j0::js)) 1)]) (B:=[(0,.cells cs sz)]) (D:=(xg x xs.length c c1 c2 r)) (e1:=(siE xs.length c 3 pw bL h (sl3 7 (j0::js).length) (k+1:Nat))) (O1:=(xg x xs.length c c1 c2 r)++[(7,.cells (bA (j0::js)) 1)]) (mS _ .nil) aO lF
    (by
     unfold sqR;refine(aZc ..).trans ?_;rw[D7 (show(k:Int)<xs.length by omega),T7,jN,T7,hg,hw,hb,T7,aI,fN (by omega)]) rfl
    (by simp only[xb,abD,List.cons_append,List.nil_append,fD,pN,qJ,nH];rw[bQ (jW (j0::js))];rfl) rfl rfl rfl rfl rfl
  |false=>
   have hd:=hd hb;show cI P9 1 89 _ (siE xs.length c 3 pw bL h (sl3 7 (j0::js).length) k) ⟨8,(xg x xs.length c c1 c2 r)++[(7,.cells (bA (j0::js)) 1),(0,.cells cs sz)]⟩ _ (siE xs.length c 3 pw bL h (sl3 7 ((j0::js)++[D.dv x y]).length) (k+1:Nat)) ⟨8,(xg x xs.length c c1 c2 r)++[(7,.cells (bA ((j0::js)++[D.dv x y])) 1),(0,.cells cs sz)]⟩ _;rw[aXh,List.length_append];have hf:kZ 0 (bA (j0::js)++bA [D.dv x y])=true:=tC (jW _) (jW _);exact bK (C:=sqR sG []) (H0:=⟨4,(xg x xs.length c c1 c2 r)++[(0,.cells cs sz)]⟩) (e:=(siE xs.length c 3 pw bL h (sl3 7 (j0::js).length) k)) (H:=⟨8,(xg x xs.length c c1 c2 r)++[(7,.cells (bA (j0::js)) 1),(0,.cells cs sz)]⟩) (n:=60) (ts:=siT) (bo:=[3,2,1,10]) (bs:=[11,12,13,10])
    (A:=(xg x xs.length c c1 c2 r)++[(7,.cells (bA (j0::js)++bA [D.dv x y]) 1)]) (B:=[(0,.cells cs sz)]) (D:=(xg x xs.length c c1 c2 r)) (e1:=(siE xs.length c 3 pw bL h (sl3 10 ((j0::js).length+1)) (k+1:Nat))) (O1:=(xg x xs.length c c1 c2 r)++[(10,.cells (bA (j0::js)++bA [D.dv x y]) 1)]) (mS _ .nil) aO lF
    (by
     unfold sqR;refine(bMg ..).trans ?_;rw[D7 (show(k:Int)<xs.length by omega),T7,jN,T7,hg,hw,hb,F7,hd,zB (aRc _) (by omega),aI,fN (by omega)];rfl) rfl
    (by simp only[xb,abD,List.cons_append,List.nil_append,fD,pN,qJ,nH];rw[bQ hf];rfl) rfl rfl rfl rfl rfl
theorem bD8(x:El)(pw:Int)(h n:Nat)(js:List (Nat×Nat)):
  cI P9 1 89 ⟨4,(xg x n c c1 c2 r)++[(0,.cells cs sz)]⟩ (siE n c 3 pw bL h (oSq 7 js) n) (oHq 4 7 (xg x n c c1 c2 r) cs sz js) (.exit 2) (siE n c 3 pw bL h (oSq 7 js) n) (oHq 4 7 (xg x n c c1 c2 r) cs sz js) (λQ a w=>sqB.wp P9 Q a w):=by
 cases js with
 |nil=>
  exact bK (C:=sqR sG []) (H0:=⟨4,(xg x n c c1 c2 r)++[(0,.cells cs sz)]⟩) (e:=(siE n c 3 pw bL h bL n)) (H:=⟨4,(xg x n c c1 c2 r)++[(0,.cells cs sz)]⟩) (n:=60) (ts:=siT) (bo:=[3,2,1,6]) (bs:=[])
    (A:=(xg x n c c1 c2 r)) (B:=[(0,.cells cs sz)]) (D:=(xg x n c c1 c2 r)) (e1:=(siE n c 3 pw bL h bL n)) (O1:=(xg x n c c1 c2 r)) (mS _ .nil) aO lF
    (by
     unfold sqR;refine(aZe ..).trans ?_;rw[E7 (by omega)];rfl) rfl
    (by simp only[xb,abD,List.cons_append,List.nil_append,fD,pN,qJ,nH];rfl) rfl rfl rfl rfl rfl
 |cons j0 js=>
  exact bK (C:=sqR sG []) (H0:=⟨4,(xg x n c c1 c2 r)++[(0,.cells cs sz)]⟩) (e:=(siE n c 3 pw bL h (sl3 7 (j0::js).length) n)) (H:=⟨8,(xg x n c c1 c2 r)++[(7,.cells (bA (j0::js)) 1),(0,.cells cs sz)]⟩) (n:=60) (ts:=siT) (bo:=[3,2,1,7]) (bs:=[4,5,6,7])
    (A:=(xg x n c c1 c2 r)++[(7,.cells (bA (j0::js)) 1)]) (B:=[(0,.cells cs sz)]) (D:=(xg x n c c1 c2 r)) (e1:=(siE n c 3 pw bL h (sl3 7 (j0::js).length) n)) (O1:=(xg x n c c1 c2 r)++[(7,.cells (bA (j0::js)) 1)]) (mS _ .nil) aO lF
    (by
     unfold sqR;refine(aZc ..).trans ?_;rw[E7 (by omega)];rfl) rfl
    (by simp only[xb,abD,List.cons_append,List.nil_append,fD,pN,qJ,nH];rw[bQ (jW (j0::js))];rfl) rfl rfl rfl rfl rfl
theorem bEa(x:El)(pw:Int)(h:Nat)(hx:uP cs 0 xs)(hn:xs.length<900000)(hw:∀y∈xs,bJ1 c1 c2 r (D.wi y) y)(hd:∀y∈xs,D.wi y=false->bCt x pw y (D.dv x y)):
  iE P9 1 89 (siE xs.length c 3 pw bL h bL (0:Nat)) ⟨4,(xg x xs.length c c1 c2 r)++[(0,.cells cs sz)]⟩ (.exit 2) (siE xs.length c 3 pw bL h (oSq 7 (D.oZ x xs xs.length)) xs.length) (oHq 4 7 (xg x xs.length c c1 c2 r) cs sz (D.oZ x xs xs.length)) (λQ act w=>Code.wp P9 (.loop sqB) Q act w):=by
 have hB:dH P9 1 89 ⟨4,(xg x xs.length c c1 c2 r)++[(0,.cells cs sz)]⟩ sqB (siE xs.length c 3 pw bL h bL (0:Nat)) ⟨4,(xg x xs.length c c1 c2 r)++[(0,.cells cs sz)]⟩ (.exit 2) (siE xs.length c 3 pw bL h (oSq 7 (D.oZ x xs xs.length)) xs.length) (oHq 4 7 (xg x xs.length c c1 c2 r) cs sz (D.oZ x xs xs.length)):=
  fQ (P:=P9) (lo:=1) (sz:=89) (a:=sqB) (H0:=⟨4,(xg x xs.length c c1 c2 r)++[(0,.cells cs sz)]⟩) (E:=λk:Nat=>(siE xs.length c 3 pw bL h (oSq 7 (D.oZ x xs k)) k)) (H:=λk=>oHq 4 7 (xg x xs.length c c1 c2 r) cs sz (D.oZ x xs k)) (ex:=.exit 2)
   (e':=(siE xs.length c 3 pw bL h (oSq 7 (D.oZ x xs xs.length)) xs.length)) (H':=oHq 4 7 (xg x xs.length c c1 c2 r) cs sz (D.oZ x xs xs.length)) xs.length 0 (λk _ hk=>by have hk':=List.getElem?_eq_getElem (show k<xs.length by omega);exact bEc x pw h hx hn hk' (hw _ (List.getElem_mem _)) (hd _ (List.getElem_mem _))) (gY (by intro h;cases h) (by simp only[Nat.zero_add];exact bD8 x pw h xs.length _))
 exact @gG _ _ _ _ _ _ _ _ _ hB
theorem bUd{zs:List (Nat×Nat)}{f:Nat->Nat×Nat}{D:dF}(hf:aGf zs f)(hn:zs.length<900000):aD P9 44 [oSq 8 zs] (oHq 5 8 D cs sz zs) (.complex .f64 (f zs.length).1 (f zs.length).2):=by
 cases zs with
 |nil=>show aD P9 44 [bL] _ (.complex .f64 (f 0).1 (f 0).2);rw[hf.zero];exact xP
 |cons z zs=>exact aD.one (b:=8) (pS (sz:=1) (c:=(z::zs).length) (mG (z::zs)) hn hf) (jW _) (by show _∈D++[_,_];simp) rfl
theorem bEd(x:El)(pw:Int)(h:Nat)(lz:List (Nat×Nat))(i0:Nat)(hx:uP cs 0 xs)(hn:xs.length<900000){k:Nat}{y:El}(hk:xs[k]?=some y)(hw:bJ1 c1 c2 r (D.wi y) y)(hd:D.wi y=false->bCt x pw y (D.dv x y)):
  cI P9 1 89 ⟨5,(xf x lz xs.length c c1 c2 r)++[(0,.cells cs sz)]⟩ (siE xs.length c 4 pw (sl3 3 i0) h (oSq 8 (D.oZ x xs k)) k) (oHq 5 8 (xf x lz xs.length c c1 c2 r) cs sz (D.oZ x xs k)) .normal
   (siE xs.length c 4 pw (sl3 3 i0) h (oSq 8 (D.oZ x xs (k+1))) (k+1:Nat)) (oHq 5 8 (xf x lz xs.length c c1 c2 r) cs sz (D.oZ x xs (k+1))) (λQ a w=>sqB.wp P9 Q a w):=by
 have hkn:=(List.getElem?_eq_some_iff.1 hk).1;have hl:=D.oZ_len (x:=x) (xs:=xs) k;rw[D.oZ_step hk];generalize D.oZ x xs k=js at hl;have hg:=λ(R:Type)(K:Int->Nat->Nat->Nat->Nat->Nat->Option R)=>uH hx hk R K
 cases js with
 |nil=>
  cases hb:D.wi y with
  |true=>
   show cI P9 1 89 _ (siE xs.length c 4 pw (sl3 3 i0) h bL k) ⟨5,(xf x lz xs.length c c1 c2 r)++[(0,.cells cs sz)]⟩ _ (siE xs.length c 4 pw (sl3 3 i0) h bL (k+1:Nat)) ⟨5,(xf x lz xs.length c c1 c2 r)++[(0,.cells cs sz)]⟩ _;exact bK (C:=sqR sH []) (H0:=⟨5,(xf x lz xs.length c c1 c2 r)++[(0,.cells cs sz)]⟩) (e:=(siE xs.length c 4 pw (sl3 3 i0) h bL k)) (H:=⟨5,(xf x lz xs.length c c1 c2 r)++[(0,.cells cs sz)]⟩) (n:=60) (ts:=siT) (bo:=[4,3,2,1,7]) (bs:=[])
    (A:=(xf x lz xs.length c c1 c2 r)) (B:=[(0,.cells cs sz)]) (D:=(xf x lz xs.length c c1 c2 r)) (e1:=(siE xs.length c 4 pw (sl3 3 i0) h bL (k+1:Nat))) (O1:=(xf x lz xs.length c c1 c2 r)) (mS _ .nil) aO lF
    (by
     unfold sqR;refine(aZf ..).trans ?_;rw[D7 (show(k:Int)<xs.length by omega),T7,jN,T7,hg,hw,hb,T7,aI,fN (by omega)]) rfl
    (by simp only[xb,abD,List.cons_append,List.nil_append,fD,pN,qJ,nH];rw[bQ (jW lz)];rfl) rfl rfl rfl rfl rfl
  |false=>
   have hd:=hd hb;show cI P9 1 89 _ (siE xs.length c 4 pw (sl3 3 i0) h bL k) ⟨5,(xf x lz xs.length c c1 c2 r)++[(0,.cells cs sz)]⟩ _ (siE xs.length c 4 pw (sl3 3 i0) h (sl3 8 1) (k+1:Nat)) ⟨9,(xf x lz xs.length c c1 c2 r)++[(8,.cells [.complex .f64 (D.dv x y).1 (D.dv x y).2] 1),(0,.cells cs sz)]⟩ _;exact bK (C:=sqR sH []) (H0:=⟨5,(xf x lz xs.length c c1 c2 r)++[(0,.cells cs sz)]⟩) (e:=(siE xs.length c 4 pw (sl3 3 i0) h bL k)) (H:=⟨5,(xf x lz xs.length c c1 c2 r)++[(0,.cells cs sz)]⟩) (n:=60) (ts:=siT) (bo:=[4,3,2,1,7]) (bs:=[8,9,10,7])
    (A:=(xf x lz xs.length c c1 c2 r)++[(8,.cells [.complex .f64 (D.dv x y).1 (D.dv x y).2] 1)]) (B:=[(0,.cells cs sz)]) (D:=(xf x lz xs.length c c1 c2 r)) (e1:=(siE xs.length c 4 pw (sl3 3 i0) h (sl3 7 1) (k+1:Nat))) (O1:=(xf x lz xs.length c c1 c2 r)++[(7,.cells [.complex .f64 (D.dv x y).1 (D.dv x y).2] 1)]) (mS _ .nil) aO lF
    (by
     unfold sqR;refine(aZf ..).trans ?_;rw[D7 (show(k:Int)<xs.length by omega),T7,jN,T7,hg,hw,hb,F7,hd,aI,fN (by omega)]) rfl
    (by simp only[xb,abD,List.cons_append,List.nil_append,fD,pN,qJ,nH];rw[bQ (jW lz)];rfl) rfl rfl rfl rfl rfl
 |cons j0 js=>
  have hl':(j0::js).length<900000:=by omega
  cases hb:D.wi y with
  |true=>
   show cI P9 1 89 _ (siE xs.length c 4 pw (sl3 3 i0) h (sl3 8 (j0::js).length) k) ⟨9,(xf x lz xs.length c c1 c2 r)++[(8,.cells (bA (j0::js)) 1),(0,.cells cs sz)]⟩ _ (siE xs.length c 4 pw (sl3 3 i0) h (sl3 8 (j0::js).length) (k+1:Nat)) ⟨9,(xf x lz xs.length c c1 c2 r)++[(8,.cells (bA (j0::js)) 1),(0,.cells cs sz)]⟩ _;exact bK (C:=sqR sH []) (H0:=⟨5,(xf x lz xs.length c c1 c2 r)++[(0,.cells cs sz)]⟩) (e:=(siE xs.length c 4 pw (sl3 3 i0) h (sl3 8 (j0::js).length) k)) (H:=⟨9,(xf x lz xs.length c c1 c2 r)++[(8,.cells (bA (j0::js)) 1),(0,.cells cs sz)]⟩) (n:=60) (ts:=siT) (bo:=[4,3,2,1,8]) (bs:=[5,6,7,8])
    (A:=(xf x lz xs.length c c1 c2 r)++[(8,.cells (bA (j0::js)) 1)]) (B:=[(0,.cells cs sz)]) (D:=(xf x lz xs.length c c1 c2 r)) (e1:=(siE xs.length c 4 pw (sl3 3 i0) h (sl3 8 (j0::js).length) (k+1:Nat))) (O1:=(xf x lz xs.length c c1 c2 r)++[(8,.cells (bA (j0::js)) 1)]) (mS _ .nil) aO lF
    (by
     unfold sqR;refine(aZd ..).trans ?_;rw[D7 (show(k:Int)<xs.length by omega),T7,jN,T7,hg,hw,hb,T7,aI,fN (by omega)]) rfl
    (by simp only[xb,abD,List.cons_append,List.nil_append,fD,pN,qJ,nH];rw[bQ (jW lz)];rw[bQ (jW (j0::js))];rfl) rfl rfl rfl rfl rfl
  |false=>
   have hd:=hd hb;show cI P9 1 89 _ (siE xs.length c 4 pw (sl3 3 i0) h (sl3 8 (j0::js).length) k) ⟨9,(xf x lz xs.length c c1 c2 r)++[(8,.cells (bA (j0::js)) 1),(0,.cells cs sz)]⟩ _ (siE xs.length c 4 pw (sl3 3 i0) h (sl3 8 ((j0::js)++[D.dv x y]).length) (k+1:Nat)) ⟨9,(xf x lz xs.length c c1 c2 r)++[(8,.cells (bA ((j0::js)++[D.dv x y])) 1),(0,.cells cs sz)]⟩ _;rw[aXh,List.length_append];have hf:kZ 0 (bA (j0::js)++bA [D.dv x y])=true:=tC (jW _) (jW _);exact bK (C:=sqR sH []) (H0:=⟨5,(xf x lz xs.length c c1 c2 r)++[(0,.cells cs sz)]⟩) (e:=(siE xs.length c 4 pw (sl3 3 i0) h (sl3 8 (j0::js).length) k)) (H:=⟨9,(xf x lz xs.length c c1 c2 r)++[(8,.cells (bA (j0::js)) 1),(0,.cells cs sz)]⟩) (n:=60) (ts:=siT) (bo:=[4,3,2,1,11]) (bs:=[12,13,14,11])
    (A:=(xf x lz xs.length c c1 c2 r)++[(8,.cells (bA (j0::js)++bA [D.dv x y]) 1)]) (B:=[(0,.cells cs sz)]) (D:=(xf x lz xs.length c c1 c2 r)) (e1:=(siE xs.length c 4 pw (sl3 3 i0) h (sl3 11 ((j0::js).length+1)) (k+1:Nat))) (O1:=(xf x lz xs.length c c1 c2 r)++[(11,.cells (bA (j0::js)++bA [D.dv x y]) 1)]) (mS _ .nil) aO lF
    (by
     unfold sqR;refine(bMh ..).trans ?_;rw[D7 (show(k:Int)<xs.length by omega),T7,jN,T7,hg,hw,hb,F7,hd,zB (aRc _) (by omega),aI,fN (by omega)];rfl) rfl
    (by simp only[xb,abD,List.cons_append,List.nil_append,fD,pN,qJ,nH];rw[bQ (jW lz)];rw[bQ hf];rfl) rfl rfl rfl rfl rfl
theorem bD9(x:El)(pw:Int)(h n:Nat)(lz:List (Nat×Nat))(i0:Nat)(js:List (Nat×Nat)):
  cI P9 1 89 ⟨5,(xf x lz n c c1 c2 r)++[(0,.cells cs sz)]⟩ (siE n c 4 pw (sl3 3 i0) h (oSq 8 js) n) (oHq 5 8 (xf x lz n c c1 c2 r) cs sz js) (.exit 2) (siE n c 4 pw (sl3 3 i0) h (oSq 8 js) n) (oHq 5 8 (xf x lz n c c1 c2 r) cs sz js) (λQ a w=>sqB.wp P9 Q a w):=by
 cases js with
 |nil=>
  exact bK (C:=sqR sH []) (H0:=⟨5,(xf x lz n c c1 c2 r)++[(0,.cells cs sz)]⟩) (e:=(siE n c 4 pw (sl3 3 i0) h bL n)) (H:=⟨5,(xf x lz n c c1 c2 r)++[(0,.cells cs sz)]⟩) (n:=60) (ts:=siT) (bo:=[4,3,2,1,7]) (bs:=[])
    (A:=(xf x lz n c c1 c2 r)) (B:=[(0,.cells cs sz)]) (D:=(xf x lz n c c1 c2 r)) (e1:=(siE n c 4 pw (sl3 3 i0) h bL n)) (O1:=(xf x lz n c c1 c2 r)) (mS _ .nil) aO lF
    (by
     unfold sqR;refine(aZf ..).trans ?_;rw[E7 (by omega)];rfl) rfl
    (by simp only[xb,abD,List.cons_append,List.nil_append,fD,pN,qJ,nH];rw[bQ (jW lz)];rfl) rfl rfl rfl rfl rfl
 |cons j0 js=>
  exact bK (C:=sqR sH []) (H0:=⟨5,(xf x lz n c c1 c2 r)++[(0,.cells cs sz)]⟩) (e:=(siE n c 4 pw (sl3 3 i0) h (sl3 8 (j0::js).length) n)) (H:=⟨9,(xf x lz n c c1 c2 r)++[(8,.cells (bA (j0::js)) 1),(0,.cells cs sz)]⟩) (n:=60) (ts:=siT) (bo:=[4,3,2,1,8]) (bs:=[5,6,7,8])
    (A:=(xf x lz n c c1 c2 r)++[(8,.cells (bA (j0::js)) 1)]) (B:=[(0,.cells cs sz)]) (D:=(xf x lz n c c1 c2 r)) (e1:=(siE n c 4 pw (sl3 3 i0) h (sl3 8 (j0::js).length) n)) (O1:=(xf x lz n c c1 c2 r)++[(8,.cells (bA (j0::js)) 1)]) (mS _ .nil) aO lF
    (by
     unfold sqR;refine(aZd ..).trans ?_;rw[E7 (by omega)];rfl) rfl
    (by simp only[xb,abD,List.cons_append,List.nil_append,fD,pN,qJ,nH];rw[bQ (jW lz)];rw[bQ (jW (j0::js))];rfl) rfl rfl rfl rfl rfl
theorem bEb(x:El)(pw:Int)(h:Nat)(lz:List (Nat×Nat))(i0:Nat)(hx:uP cs 0 xs)(hn:xs.length<900000)(hw:∀y∈xs,bJ1 c1 c2 r (D.wi y) y)(hd:∀y∈xs,D.wi y=false->bCt x pw y (D.dv x y)):
  iE P9 1 89 (siE xs.length c 4 pw (sl3 3 i0) h bL (0:Nat)) ⟨5,(xf x lz xs.length c c1 c2 r)++[(0,.cells cs sz)]⟩ (.exit 2) (siE xs.length c 4 pw (sl3 3 i0) h (oSq 8 (D.oZ x xs xs.length)) xs.length) (oHq 5 8 (xf x lz xs.length c c1 c2 r) cs sz (D.oZ x xs xs.length)) (λQ act w=>Code.wp P9 (.loop sqB) Q act w):=by
 have hB:dH P9 1 89 ⟨5,(xf x lz xs.length c c1 c2 r)++[(0,.cells cs sz)]⟩ sqB (siE xs.length c 4 pw (sl3 3 i0) h bL (0:Nat)) ⟨5,(xf x lz xs.length c c1 c2 r)++[(0,.cells cs sz)]⟩ (.exit 2) (siE xs.length c 4 pw (sl3 3 i0) h (oSq 8 (D.oZ x xs xs.length)) xs.length) (oHq 5 8 (xf x lz xs.length c c1 c2 r) cs sz (D.oZ x xs xs.length)):=
  fQ (P:=P9) (lo:=1) (sz:=89) (a:=sqB) (H0:=⟨5,(xf x lz xs.length c c1 c2 r)++[(0,.cells cs sz)]⟩) (E:=λk:Nat=>(siE xs.length c 4 pw (sl3 3 i0) h (oSq 8 (D.oZ x xs k)) k)) (H:=λk=>oHq 5 8 (xf x lz xs.length c c1 c2 r) cs sz (D.oZ x xs k)) (ex:=.exit 2)
   (e':=(siE xs.length c 4 pw (sl3 3 i0) h (oSq 8 (D.oZ x xs xs.length)) xs.length)) (H':=oHq 5 8 (xf x lz xs.length c c1 c2 r) cs sz (D.oZ x xs xs.length)) xs.length 0 (λk _ hk=>by have hk':=List.getElem?_eq_getElem (show k<xs.length by omega);exact bEd x pw h lz i0 hx hn hk' (hw _ (List.getElem_mem _)) (hd _ (List.getElem_mem _))) (gY (by intro h;cases h) (by simp only[Nat.zero_add];exact bD9 x pw h xs.length lz i0 _))
 exact @gG _ _ _ _ _ _ _ _ _ hB
end
theorem iK(R:Type)(n:Int)(k:KIO R):aG R n k=k n:=aI R n k
section
variable{cs:List Value}{sz c c1 c2 r:Nat}{xs:List El}{D:SqD}
theorem bFg(hx:uP cs 0 xs)(hn:xs.length<900000)(hD:bYg D c1 c2 r xs){h:Nat}{x:El}(hk:xs[h]?=some x):
  cI P9 1 89 ⟨3,abD xs.length c c1 c2 r++[(0,.cells cs sz)]⟩ (soE xs.length c (oSq 3 (D.lZ xs h)) h) (lHq xs.length c c1 c2 r cs sz (D.lZ xs h)) .normal
   (soE xs.length c (oSq 3 (D.lZ xs (h+1))) (h+1:Nat)) (lHq xs.length c c1 c2 r cs sz (D.lZ xs (h+1))) (λQ a w=>sqA.wp P9 Q a w):=by
 have hkn:=(List.getElem?_eq_some_iff.1 hk).1;have hm:x∈xs:=List.mem_of_getElem? hk;have hl:=D.lZ_len (xs:=xs) h;rw[D.lZ_step hk];generalize D.lZ xs h=js at hl;have hg:=λ(R:Type)(K:Int->Nat->Nat->Nat->Nat->Nat->Option R)=>uH hx hk R K
 have hw:=hD.wi x hm;cases hb:D.wi x with
 |false=>
  cases js with
  |nil=>
   show cI P9 1 89 _ (soE xs.length c bL h) ⟨3,abD xs.length c c1 c2 r++[(0,.cells cs sz)]⟩ _ (soE xs.length c bL (h+1:Nat)) ⟨3,abD xs.length c c1 c2 r++[(0,.cells cs sz)]⟩ _;exact kG (C:=sqR la0 []) (L:=eS siT [3,2,1,0] noL) (H0:=⟨3,abD xs.length c c1 c2 r++[(0,.cells cs sz)]⟩) (e:=soE xs.length c bL h) (H:=⟨3,abD xs.length c c1 c2 r++[(0,.cells cs sz)]⟩) (n:=60) (ts:=soT) (bo:=[2,1]) (bs:=[])
    (A:=abD xs.length c c1 c2 r) (B:=[(0,.cells cs sz)]) (D:=abD xs.length c c1 c2 r) (e1:=soE xs.length c bL (h+1:Nat)) (O1:=abD xs.length c c1 c2 r) (mS _ .nil) aO (λa _=>dJ qU)
    (by unfold sqR;refine(bUb ..).trans ?_;rw[D7 (show(h:Int)<xs.length by omega),T7,jN,T7,hg,hw,hb,F7,aI,fN (by omega)]) rfl
    rfl rfl rfl rfl rfl rfl
  |cons j0 js=>
   show cI P9 1 89 _ (soE xs.length c (sl3 3 (j0::js).length) h) ⟨4,(3,.cells (bA (j0::js)) 1)::abD xs.length c c1 c2 r++[(0,.cells cs sz)]⟩ _ (soE xs.length c (sl3 3 (j0::js).length) (h+1:Nat)) ⟨4,(3,.cells (bA (j0::js)) 1)::abD xs.length c c1 c2 r++[(0,.cells cs sz)]⟩ _;exact kG (C:=sqR oa3 []) (L:=eS siT [4,3,2,1,0] noL) (H0:=⟨3,abD xs.length c c1 c2 r++[(0,.cells cs sz)]⟩) (e:=soE xs.length c (sl3 3 (j0::js).length) h) (H:=⟨4,(3,.cells (bA (j0::js)) 1)::abD xs.length c c1 c2 r++[(0,.cells cs sz)]⟩) (n:=60) (ts:=soT) (bo:=[3,2,1]) (bs:=[3])
    (A:=(3,.cells (bA (j0::js)) 1)::abD xs.length c c1 c2 r) (B:=[(0,.cells cs sz)]) (D:=abD xs.length c c1 c2 r) (e1:=soE xs.length c (sl3 3 (j0::js).length) (h+1:Nat)) (O1:=(3,.cells (bA (j0::js)) 1)::abD xs.length c c1 c2 r) (mS _ .nil) aO (λa _=>dJ qU)
    (by
     unfold sqR;refine(bIr ..).trans ?_;rw[D7 (show(h:Int)<xs.length by omega),T7,jN,T7,hg,hw,hb,F7,aI,fN (by omega)]) rfl
    (by simp only[abD,fD,pN,qJ,nH];rw[bQ (jW (j0::js))];rfl) rfl rfl rfl rfl rfl
 |true=>
  obtain⟨hp,p0,p1⟩:=hD.pw x hm hb;have hq:=hD.qv x hm hb;have hsum:=hD.f x hm hb;have hdv:=hD.dv x hm hb;have hol:=D.oZ_len (x:=x) (xs:=xs) xs.length;have hw1:IntKind.i64.wrap (D.pw x-1)=D.pw x-1:=qI (by omega) (by omega);rw[T7];cases js with
  |nil=>
   show cI P9 1 89 _ (soE xs.length c bL h) ⟨3,abD xs.length c c1 c2 r++[(0,.cells cs sz)]⟩ _ (soE xs.length c (sl3 3 1) (h+1:Nat)) ⟨4,(3,.cells [.complex .f64 (D.qv x).1 (D.qv x).2] 1)::abD xs.length c c1 c2 r++[(0,.cells cs sz)]⟩ _;have hB:=@bEa cs sz c c1 c2 r xs D x (D.pw x) h hx hn hD.wi hdv;have hs:=bUc (D:=(xg x xs.length c c1 c2 r)) (cs:=cs) (sz:=sz) hsum (by omega);generalize D.oZ x xs xs.length=zs at hB hs hq hol;cases zs with
   |nil=>
    have hs:aD P9 44 [bL] ⟨4,(xg x xs.length c c1 c2 r)++[(0,.cells cs sz)]⟩ (.complex .f64 (D.f x 0).1 (D.f x 0).2):=hs;exact kG (C:=sqR sG [(44,bF (.complex .f64 (D.f x 0).1 (D.f x 0).2) (fJ P9 44 (.complex .f64 (D.f x 0).1 (D.f x 0).2)))]) (L:=eS siT [3,2,1,0] (told P9 (.exit 2) (siE xs.length c 3 (D.pw x) bL h bL xs.length) ⟨4,(xg x xs.length c c1 c2 r)++[(0,.cells cs sz)]⟩))
     (H0:=⟨3,abD xs.length c c1 c2 r++[(0,.cells cs sz)]⟩) (e:=soE xs.length c bL h) (H:=⟨3,abD xs.length c c1 c2 r++[(0,.cells cs sz)]⟩) (n:=60) (ts:=soT) (bo:=[5,2,1]) (bs:=[5])
     (A:=(3,.cells [.complex .f64 (D.qv x).1 (D.qv x).2] 1)::abD xs.length c c1 c2 r) (B:=[(0,.cells cs sz)]) (D:=abD xs.length c c1 c2 r) (e1:=soE xs.length c (sl3 5 1) (h+1:Nat)) (O1:=(5,.cells [.complex .f64 (D.qv x).1 (D.qv x).2] 1)::abD xs.length c c1 c2 r) (mS _ (.cons (gL rfl) aWd .nil)) aO (λa _=>dJ (gN _ _ _ _ a))
     (by
      unfold sqR;refine(cAm ..).trans ?_;rw[D7 (show(h:Int)<xs.length by omega),T7,jN,T7,hg,hw,hb,T7,hp,D9,aI];refine(gT @hB _ _).trans ?_;refine(cX ..).trans ?_;refine(cAt ..).trans ?_;simp only[cO hs,iK,hw1];refine(hq _ _).trans ?_;rw[fN (by omega)]
      ) rfl
     (by rfl) rfl rfl rfl rfl rfl
   |cons z0 zs=>
    have hs:aD P9 44 [(sl3 7 (z0::zs).length)] ⟨8,(xg x xs.length c c1 c2 r)++[(7,.cells (bA (z0::zs)) 1),(0,.cells cs sz)]⟩ (.complex .f64 (D.f x (z0::zs).length).1 (D.f x (z0::zs).length).2):=hs;exact kG (C:=sqR sG [(44,bF (.complex .f64 (D.f x (z0::zs).length).1 (D.f x (z0::zs).length).2) (fJ P9 44 (.complex .f64 (D.f x (z0::zs).length).1 (D.f x (z0::zs).length).2)))]) (L:=eS siT [3,2,1,0] (told P9 (.exit 2) (siE xs.length c 3 (D.pw x) bL h (sl3 7 (z0::zs).length) xs.length) ⟨8,(xg x xs.length c c1 c2 r)++[(7,.cells (bA (z0::zs)) 1),(0,.cells cs sz)]⟩))
     (H0:=⟨3,abD xs.length c c1 c2 r++[(0,.cells cs sz)]⟩) (e:=soE xs.length c bL h) (H:=⟨3,abD xs.length c c1 c2 r++[(0,.cells cs sz)]⟩) (n:=60) (ts:=soT) (bo:=[9,2,1]) (bs:=[9])
     (A:=(3,.cells [.complex .f64 (D.qv x).1 (D.qv x).2] 1)::abD xs.length c c1 c2 r) (B:=[(0,.cells cs sz)]) (D:=abD xs.length c c1 c2 r) (e1:=soE xs.length c (sl3 9 1) (h+1:Nat)) (O1:=(9,.cells [.complex .f64 (D.qv x).1 (D.qv x).2] 1)::abD xs.length c c1 c2 r) (mS _ (.cons (gL rfl) aWd .nil)) aO (λa _=>dJ (gN _ _ _ _ a))
     (by
      unfold sqR;refine(cAn ..).trans ?_;rw[D7 (show(h:Int)<xs.length by omega),T7,jN,T7,hg,hw,hb,T7,hp,D9,aI];refine(gT @hB _ _).trans ?_;refine(cX ..).trans ?_;refine(cAu ..).trans ?_;simp only[cO hs,iK,hw1];refine(hq _ _).trans ?_;rw[fN (by omega)]
      ) rfl
     (by rfl) rfl rfl rfl rfl rfl
  |cons j0 js=>
   show cI P9 1 89 _ (soE xs.length c (sl3 3 (j0::js).length) h) ⟨4,(3,.cells (bA (j0::js)) 1)::abD xs.length c c1 c2 r++[(0,.cells cs sz)]⟩ _ (soE xs.length c (sl3 3 ((j0::js)++[D.qv x]).length) (h+1:Nat)) ⟨4,(3,.cells (bA ((j0::js)++[D.qv x])) 1)::abD xs.length c c1 c2 r++[(0,.cells cs sz)]⟩ _;rw[aXh,List.length_append];have hf:kZ 0 (bA (j0::js)++bA [D.qv x])=true:=tC (jW _) (jW _);have hB:=@bEb cs sz c c1 c2 r xs D x (D.pw x) h (j0::js) (j0::js).length hx hn hD.wi hdv;have hs:=bUd (D:=(xf x (j0::js) xs.length c c1 c2 r)) (cs:=cs) (sz:=sz) hsum (by omega);generalize D.oZ x xs xs.length=zs at hB hs hq hol;cases zs with
   |nil=>
    have hs:aD P9 44 [bL] ⟨5,(xf x (j0::js) xs.length c c1 c2 r)++[(0,.cells cs sz)]⟩ (.complex .f64 (D.f x 0).1 (D.f x 0).2):=hs;exact kG (C:=sqR sH [(44,bF (.complex .f64 (D.f x 0).1 (D.f x 0).2) (fJ P9 44 (.complex .f64 (D.f x 0).1 (D.f x 0).2)))]) (L:=eS siT [4,3,2,1,0] (told P9 (.exit 2) (siE xs.length c 4 (D.pw x) (sl3 3 (j0::js).length) h bL xs.length) ⟨5,(xf x (j0::js) xs.length c c1 c2 r)++[(0,.cells cs sz)]⟩))
     (H0:=⟨3,abD xs.length c c1 c2 r++[(0,.cells cs sz)]⟩) (e:=soE xs.length c (sl3 3 (j0::js).length) h) (H:=⟨4,(3,.cells (bA (j0::js)) 1)::abD xs.length c c1 c2 r++[(0,.cells cs sz)]⟩) (n:=60) (ts:=soT) (bo:=[6,2,1]) (bs:=[6])
     (A:=(3,.cells (bA (j0::js)++bA [D.qv x]) 1)::abD xs.length c c1 c2 r) (B:=[(0,.cells cs sz)]) (D:=abD xs.length c c1 c2 r) (e1:=soE xs.length c (sl3 6 ((j0::js).length+1)) (h+1:Nat)) (O1:=(6,.cells (bA (j0::js)++bA [D.qv x]) 1)::abD xs.length c c1 c2 r) (mS _ (.cons (gL rfl) aWd .nil)) aO (λa _=>dJ (gN _ _ _ _ a))
     (by
      unfold sqR;refine(cAo ..).trans ?_;rw[D7 (show(h:Int)<xs.length by omega),T7,jN,T7,hg,hw,hb,T7,hp,D9,aI];refine(gT @hB _ _).trans ?_;refine(cX ..).trans ?_;refine(cAv ..).trans ?_;simp only[cO hs,iK,hw1];refine(hq _ _).trans ?_;rw[zB (aRc _) (by omega)];rw[fN (by omega)];rfl) rfl
     (by simp only[abD,fD,pN,qJ,nH];rw[bQ hf];rfl) rfl rfl rfl rfl rfl
   |cons z0 zs=>
    have hs:aD P9 44 [(sl3 8 (z0::zs).length)] ⟨9,(xf x (j0::js) xs.length c c1 c2 r)++[(8,.cells (bA (z0::zs)) 1),(0,.cells cs sz)]⟩ (.complex .f64 (D.f x (z0::zs).length).1 (D.f x (z0::zs).length).2):=hs;exact kG (C:=sqR sH [(44,bF (.complex .f64 (D.f x (z0::zs).length).1 (D.f x (z0::zs).length).2) (fJ P9 44 (.complex .f64 (D.f x (z0::zs).length).1 (D.f x (z0::zs).length).2)))]) (L:=eS siT [4,3,2,1,0] (told P9 (.exit 2) (siE xs.length c 4 (D.pw x) (sl3 3 (j0::js).length) h (sl3 8 (z0::zs).length) xs.length) ⟨9,(xf x (j0::js) xs.length c c1 c2 r)++[(8,.cells (bA (z0::zs)) 1),(0,.cells cs sz)]⟩))
     (H0:=⟨3,abD xs.length c c1 c2 r++[(0,.cells cs sz)]⟩) (e:=soE xs.length c (sl3 3 (j0::js).length) h) (H:=⟨4,(3,.cells (bA (j0::js)) 1)::abD xs.length c c1 c2 r++[(0,.cells cs sz)]⟩) (n:=60) (ts:=soT) (bo:=[10,2,1]) (bs:=[10])
     (A:=(3,.cells (bA (j0::js)++bA [D.qv x]) 1)::abD xs.length c c1 c2 r) (B:=[(0,.cells cs sz)]) (D:=abD xs.length c c1 c2 r) (e1:=soE xs.length c (sl3 10 ((j0::js).length+1)) (h+1:Nat)) (O1:=(10,.cells (bA (j0::js)++bA [D.qv x]) 1)::abD xs.length c c1 c2 r) (mS _ (.cons (gL rfl) aWd .nil)) aO (λa _=>dJ (gN _ _ _ _ a))
     (by
      unfold sqR;refine(cAp ..).trans ?_;rw[D7 (show(h:Int)<xs.length by omega),T7,jN,T7,hg,hw,hb,T7,hp,D9,aI];refine(gT @hB _ _).trans ?_;refine(cX ..).trans ?_;refine(cAw ..).trans ?_;simp only[cO hs,iK,hw1];refine(hq _ _).trans ?_;rw[zB (aRc _) (by omega)];rw[fN (by omega)];rfl) rfl
     (by simp only[abD,fD,pN,qJ,nH];rw[bQ hf];rfl) rfl rfl rfl rfl rfl
theorem bFf(n:Nat)(js:List (Nat×Nat)):
  cI P9 1 89 ⟨3,abD n c c1 c2 r++[(0,.cells cs sz)]⟩ (soE n c (oSq 3 js) n) (lHq n c c1 c2 r cs sz js) (.exit 0) (soE n c (oSq 3 js) n) (lHq n c c1 c2 r cs sz js) (λQ a w=>sqA.wp P9 Q a w):=by
 cases js with
 |nil=>
  exact kG (C:=sqR la0 []) (L:=eS siT [3,2,1,0] noL) (H0:=⟨3,abD n c c1 c2 r++[(0,.cells cs sz)]⟩) (e:=soE n c bL n) (H:=⟨3,abD n c c1 c2 r++[(0,.cells cs sz)]⟩) (n:=60) (ts:=soT) (bo:=[2,1]) (bs:=[])
    (A:=abD n c c1 c2 r) (B:=[(0,.cells cs sz)]) (D:=abD n c c1 c2 r) (e1:=soE n c bL n) (O1:=abD n c c1 c2 r) (mS _ .nil) aO (λa _=>dJ qU)
    (by unfold sqR;refine(bUb ..).trans ?_;rw[E7 (by omega)];rfl) rfl
    rfl rfl rfl rfl rfl rfl
 |cons j0 js=>
  exact kG (C:=sqR oa3 []) (L:=eS siT [4,3,2,1,0] noL) (H0:=⟨3,abD n c c1 c2 r++[(0,.cells cs sz)]⟩) (e:=soE n c (sl3 3 (j0::js).length) n) (H:=⟨4,(3,.cells (bA (j0::js)) 1)::abD n c c1 c2 r++[(0,.cells cs sz)]⟩) (n:=60) (ts:=soT) (bo:=[3,2,1]) (bs:=[3])
    (A:=(3,.cells (bA (j0::js)) 1)::abD n c c1 c2 r) (B:=[(0,.cells cs sz)]) (D:=abD n c c1 c2 r) (e1:=soE n c (sl3 3 (j0::js).length) n) (O1:=(3,.cells (bA (j0::js)) 1)::abD n c c1 c2 r) (mS _ .nil) aO (λa _=>dJ qU)
    (by
     unfold sqR;refine(bIr ..).trans ?_;rw[E7 (by omega)];rfl) rfl
    (by simp only[abD,fD,pN,qJ,nH];rw[bQ (jW (j0::js))];rfl) rfl rfl rfl rfl rfl
theorem bZ5{zs:List (Nat×Nat)}{f:Nat->Nat×Nat}{n:Nat}(hf:aGf zs f)(hn:zs.length<900000):aD P9 44 [oSq 3 zs] (lHq n c c1 c2 r cs sz zs) (.complex .f64 (f zs.length).1 (f zs.length).2):=by
 cases zs with
 |nil=>show aD P9 44 [bL] _ (.complex .f64 (f 0).1 (f 0).2);rw[hf.zero];exact xP
 |cons z zs=>exact aD.one (b:=3) (pS (sz:=1) (c:=(z::zs).length) (mG (z::zs)) hn hf) (jW _) (by show _∈_::_;simp) rfl
theorem bF7:Tryz.f11.body=some (bB 11):=by kernel_rfl
theorem aNc(hx:uP cs 0 xs)(hn:xs.length<900000)(hD:bYg D c1 c2 r xs)(hf:kZ 0 cs=true)(hc:aD P9 38 [cW 0 xs.length c,ciV c1 c2 r,.bool true] ⟨1,[(0,.cells cs sz)]⟩ (.int .i64 0)){f:Nat->Nat×Nat}(hsum:aGf (D.lZ xs xs.length) f){u v:Nat}(hsc:∀(R:Type)(k:KNN R),eQ R (f (D.lZ xs xs.length).length).1 (f (D.lZ xs xs.length).length).2 4611686018427387904 k=k u v)(hfin:∀(R:Type)(k:KBO R),aP R u v k=k true):
  aD P9 11 [cW 0 xs.length c,ciV c1 c2 r] ⟨1,[(0,.cells cs sz)]⟩ (.tuple ⟨[.complex .f64 u v,.int .i64 0]⟩):=by
 have hc':aD P9 38 [cW 0 xs.length c,ciV c1 c2 r,.bool true] ⟨3,abD xs.length c c1 c2 r++[(0,.cells cs sz)]⟩ (.int .i64 0):=aD.one hc hf (by simp) rfl;have hB:dH P9 1 89 ⟨3,abD xs.length c c1 c2 r++[(0,.cells cs sz)]⟩ sqA (soE xs.length c bL (0:Nat)) ⟨3,abD xs.length c c1 c2 r++[(0,.cells cs sz)]⟩ (.exit 0) (soE xs.length c (oSq 3 (D.lZ xs xs.length)) xs.length) (lHq xs.length c c1 c2 r cs sz (D.lZ xs xs.length)):=
  fQ (P:=P9) (lo:=1) (sz:=89) (a:=sqA) (H0:=⟨3,abD xs.length c c1 c2 r++[(0,.cells cs sz)]⟩) (E:=λk:Nat=>soE xs.length c (oSq 3 (D.lZ xs k)) k) (H:=λk=>lHq xs.length c c1 c2 r cs sz (D.lZ xs k)) (ex:=.exit 0)
   (e':=soE xs.length c (oSq 3 (D.lZ xs xs.length)) xs.length) (H':=lHq xs.length c c1 c2 r cs sz (D.lZ xs xs.length)) xs.length 0 (λk _ hk=>by have hk':=List.getElem?_eq_getElem (show k<xs.length by omega);exact bFg hx hn hD hk') (gY (by intro h;cases h) (by simp only[Nat.zero_add];exact bFf _ _))
 have hB':=@gG _ _ _ _ _ _ _ _ _ hB;have hlen:=D.lZ_len (xs:=xs) xs.length;generalize D.lZ xs xs.length=js at hB' hsum hlen hsc;have h:=cAz (told P9 (.exit 0) (soE xs.length c (oSq 3 js) xs.length) (lHq xs.length c c1 c2 r cs sz js)) aG (Ex×Env×dF) rEl rSt (rAp P9) sgK (siC (aGb gJ cQ)) dvK gF reH sU dV eQ aP (fJ P9 38 (.int .i64 0)) (fJ P9 44 (.complex .f64 (f js.length).1 (f js.length).2)) cs sz xs.length c c1 c2 r (f js.length).1 (f js.length).2 λex e O=>some (ex,e,O)
 rw[cO hc']at h;have h:=h.trans (gT @hB' _ _);rw[cX,cAy,cO (bZ5 hsum (by omega)),hsc,hfin,T7]at h;exact fK (C:=sqR la0 [(38,bF (.int .i64 0) (fJ P9 38 (.int .i64 0))),(44,bF (.complex .f64 (f js.length).1 (f js.length).2) (fJ P9 44 (.complex .f64 (f js.length).1 (f js.length).2)))]) (args:=[cW 0 xs.length c,ciV c1 c2 r]) (H:=⟨1,[(0,.cells cs sz)]⟩) (mS _ (.cons (gL rfl) cC8 (.cons (gL rfl) aWd .nil))) aO Tryz.func11 bF7 (λa _=>dJ (gN _ _ _ _ a)) (kK rfl) h (.inr rfl) (vs:=[.complex .f64 u v,.int .i64 0]) rfl rfl
end
open Ieee
def eJ:Rat:=2*piV
theorem bH9:Is 4618760256179416344 eJ:=by refine⟨by decide,false,7074237752028440,-50,by decide,?_⟩;have h:=fA (-50);rw[show(-50-1:Int)=-51 by decide]at h;unfold eJ piV dv sg;rw[h];grind
theorem bIz:eJ=7074237752028440/1125899906842624:=by unfold eJ;rw[aTa];grind
theorem aS9:eJ<=63/10:=by rw[bIz];grind
theorem aCj:6<=eJ:=by rw[bIz];grind
theorem bRh:cV<=4/25:=by rw[bKi];grind
end Go.Vm
