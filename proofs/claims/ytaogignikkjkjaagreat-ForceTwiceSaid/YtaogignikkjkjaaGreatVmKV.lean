/- A part; no conditions. -/
import Derived.Test.YtaogignikkjkjaaGreatVmKE
import Derived.Test.YtaogignikkjkjaaGreatProg
set_option maxRecDepth 1000000
set_option maxHeartbeats 1000000
set_option linter.all false
open Go.Proofs.Tryz renaming prog->P9
open Nat renaming beq->N9
open Option renaming bind_some->D9
open Go renaming Value->V9,Program->Q9,TypeId->I9,IntKind->K9,FuncId->F9,floatToIntVal->J9,Code->H9
namespace Go.Vm
def bA2{R:Type}(r:Nat):List Nat->Nat->(Nat->Option R)->Option R
 |[],t,k=>k t
 |d::ds,t,k=>aM (fbF .mul r t) λa=>aM (fbF .quo a d) λb=>aM (fbF .add 4607182418800017408 b) λt=>bA2 r ds t k
def bNr:List Nat:=[4623507967449235456,4622945017495814144,4622382067542392832,4621819117588971520,4621256167635550208,4620693217682128896,4619567317775286272,4618441417868443648,4617315517961601024,4616189618054758400,4613937818241073152,4611686018427387904,4607182418800017408]
def aKf:KFF:=λR r k=>bA2 r bNr 4607182418800017408 k
def aP8(g:KFF):Sum:=λR args k=>match args with
 |[.float .f64 r,.int .i64 j]=>bif j==1 then g R r λx=>k (.float .f64 x) else none
 |_=>none
def cCx(fi:Fi)(wh ris:KFF)(scal:aKy):KFF:=λR x k=>aW (neF x x) λt=>match t with
 |true=>k x
 |false=>aW (gtF x 4649454594685214392) λt=>match t with
  |true=>k 9218868437227405312
  |false=>aW (ltF x 13873137573428325253) λt=>match t with
   |true=>k 0
   |false=>aM (fbF .mul x 4609176140021203710) λy=>wh R y λn=>aM (fbF .mul n 4604418534311723008) λa=>aM (fbF .sub x a) λb=>aM (fbF .mul n 4461442080421002358) λc=>
     aM (fbF .sub b c) λr=>ris R r λt=>(J9 .f64 n .i64).bind λi=>fi R i λi=>scal R t i k
abbrev bC1:=∀R:Type,Nat->(Nat->Int->Option R)->Option R
def aOz:vS:=λR x m k=>aM (fbF .mul m 4609753056924401664) λa=>aM (fbF .sub x a) λx=>aM (fbF .mul m 4454258360616747008) λa=>aM (fbF .sub x a) λx=>
 aM (fbF .mul m 4297306550709518336) λa=>aM (fbF .sub x a) k
def bNy(g:vS):Sum:=λR args k=>match args with
 |[.float .f64 x,.float .f64 m,.float .f64 t]=>bif N9 t 4607182418800017408 then g R x m λx=>k (.float .f64 x) else none
 |_=>none
def aJ6(fi:Fi)(fit:KFB)(wh:KFF)(ls:vS):bC1:=λR x k=>fit R x λt=>aW t λt=>match t with
 |false=>none
 |true=>aM (fbF .mul x 4603909380684499075) λy=>wh R y λm=>aW (eqF m 0) λt=>match t with
  |true=>k x 0
  |false=>ls R x m λr=>(J9 .f64 m .i64).bind λn=>fi R n λn=>k r (bHc n 3)
def bPk(q:bC1)(st:bCu):bCu:=λR x k=>q R x λy n=>st R y λs c=>aW (n==3) λt=>match t with
 |true=>bH (Op.negFloat .f64 s) λs1=>bH (Op.negFloat .f64 c) λc1=>bH (Op.negFloat .f64 s1) λs2=>k c1 s2
 |false=>aW (n==1) λt=>match t with
  |true=>bH (Op.negFloat .f64 s) λs2=>k c s2
  |false=>aW (n==2) λt=>match t with
   |true=>bH (Op.negFloat .f64 s) λs1=>bH (Op.negFloat .f64 c) λc1=>k s1 c1
   |false=>k s c
def bRk(ex:KFF)(tn:bCu):KCC:=λR a b k=>ex R a λe=>aW (eqF b 0) λt=>match t with
 |true=>k e b
 |false=>tn R b λs c=>aM (fbF .mul e c) λx=>aM (fbF .mul e s) λy=>k x y
def bU5(lg:KCC)(scl:mO)(ex:KCC):mO:=λR a b p k=>aW (eqF p 0) λt=>match t with
 |true=>k 4607182418800017408 0
 |false=>lg R a b λx y=>scl R x y p λu v=>ex R u v k
abbrev KW:=∀R:Type,Nat->Nat->Int->(Nat->Nat->Option R)->Option R
def sKW(g:KW):Sum:=λR args k=>match args with
 |[.complex .f64 a b,.int .i64 n]=>g R a b n λx y=>k (.complex .f64 x y)
 |_=>none
def gR{R:Type}(mul:gU)(a b:Nat):List Bool->Nat->Nat->(Nat->Nat->Option R)->Option R
 |[],x,y,k=>k x y
 |t::ts,x,y,k=>mul R x y x y λx y=>match t with
  |true=>mul R x y a b λx y=>gR mul a b ts x y k
  |false=>gR mul a b ts x y k
def pI:Nat->List Bool
 |2=>[false]|3=>[true]|4=>[false,false]|5=>[false,true]|6=>[true,false]|7=>[true,true]|8=>[false,false,false]|9=>[false,false,true]|10=>[false,true,false]|_=>[]
def wU(chk:KEI)(re no:KCB)(sub:gU)(kind:Int)(p:Nat){R:Type}(pre:Option R->Option R)(a1 a2 s1 s2 z1 z2:Nat)(er:KIO R)(at0 leaf:KNN R):Option R:=
 chk R kind a1 a2 s1 s2 p λe=>match decide (e=0) with
  |false=>er e
  |true=>re R z1 z2 λt=>aW t λt=>match t with
   |false=>er 5
   |true=>pre (sub R z1 z2 a1 a2 λd1 d2=>no R d1 d2 λt=>aW t λt=>match t with
    |true=>at0 d1 d2
    |false=>leaf d1 d2)
def bYc(chk:KEI)(re no:KCB)(sub:gU)(scl:mO){R:Type}(a1 a2 s1 s2 p z1 z2:Nat)(er:KIO R)(leaf:Nat->Nat->Nat->Nat->Option R):Option R:=
 chk R 2 a1 a2 s1 s2 p λe=>match decide (e=0) with
  |false=>er e
  |true=>re R z1 z2 λt=>aW t λt=>match t with
   |false=>er 5
   |true=>scl R s1 s2 4594902181429758083 λc1 c2=>sub R z1 z2 a1 a2 λd1 d2=>no R d1 d2 λt=>aW t λt=>match t with
    |true=>er 6
    |false=>leaf c1 c2 d1 d2
def bQq(g:∀R:Type,Nat->Option R->Option R):Sum:=λR args k=>match args with
 |[.float .f64 p]=>g R p (k (.bool true))
 |_=>none
def cAx(g:∀R:Type,Nat->Option R->Option R):Sum:=λR args k=>match args with
 |[.float .f64 p]=>g R p (k (.bool false))
 |_=>none
def vB(div:gU)(scl:mO)(W:KW)(times:Option Nat)(n:Int){R:Type}(s1 s2 d1 d2:Nat)(k:KNN R):Option R:=
 match times with
 |none=>W R d1 d2 n λw1 w2=>div R s1 s2 w1 w2 k
 |some f=>scl R s1 s2 f λs1 s2=>W R d1 d2 n λw1 w2=>div R s1 s2 w1 w2 k
def vA(mul:gU)(scl:mO)(W:KW)(times:Option Nat)(n:Int){R:Type}(s1 s2 d1 d2:Nat)(k:KNN R):Option R:=
 match times with
 |none=>W R d1 d2 n λw1 w2=>mul R s1 s2 w1 w2 k
 |some f=>scl R s1 s2 f λs1 s2=>W R d1 d2 n λw1 w2=>mul R s1 s2 w1 w2 k
def bIi(mul:gU)(scl real:mO){R:Type}(p s1 s2 d1 d2:Nat)(k:KNN R):Option R:=
 scl R s1 s2 p λs1 s2=>aM (fbF .sub p 4607182418800017408) λq=>real R d1 d2 q λw1 w2=>mul R s1 s2 w1 w2 k
def cEj{R:Type}(n p:Nat)(er:KIO R):Option R:=aW (ltF p n) λt=>match t with|true=>er 6|false=>er 0
abbrev cCq:=∀R:Type,Int->Nat->Nat->Nat->Nat->Nat->Nat->Nat->(Nat->Nat->Int->Option R)->Option R
def cEn(g:cCq):Sum:=λR args k=>match args with
 |[.agg ⟨[.int .u8 kind,.complex .f64 a1 a2,.complex .f64 s1 s2,.float .f64 p]⟩,.complex .f64 z1 z2]=>g R kind a1 a2 s1 s2 p z1 z2 λx y e=>k (.tuple ⟨[.complex .f64 x y,.int .i64 e]⟩)
 |_=>none
abbrev GC:=∀R:Type,List V9->Nat->(Nat->Nat->Option R)->Option R
abbrev GF:=∀R:Type,List V9->Nat->(Nat->Option R)->Option R
abbrev GI:=∀R:Type,List V9->Nat->(Int->Option R)->Option R
abbrev GII:=∀R:Type,List V9->Nat->(Int->Int->Option R)->Option R
abbrev GEl:=∀R:Type,List V9->Nat->(Int->Nat->Nat->Nat->Nat->Nat->Option R)->Option R
def gC(g:GC):Ld:=λR cs off k=>g R cs off λa b=>k (.complex .f64 a b)
def elV(kind:Int)(a1 a2 s1 s2 p:Nat):V9:=.agg ⟨[.int .u8 kind,.complex .f64 a1 a2,.complex .f64 s1 s2,.float .f64 p]⟩
def gEl(g:GEl):Ld:=λR cs off k=>g R cs off λkind a1 a2 s1 s2 p=>k (elV kind a1 a2 s1 s2 p)
def rC:GC:=λR cs off k=>match cs[off]? with|some (.complex .f64 a b)=>k a b|_=>none
def rF:GF:=λR cs off k=>match cs[off]? with|some (.float .f64 a)=>k a|_=>none
def rI(kk:K9):GI:=λR cs off k=>match cs[off]? with|some (.int kk' n)=>bif decide (kk'=kk) then k n else none|_=>none
def rII(kk:K9):GII:=λR cs off k=>match cs.drop off with | .int k1 m::.int k2 n::_=>bif decide (k1=kk)&&decide (k2=kk) then k m n else none|_=>none
def rEl:GEl:=λR cs off k=>match cs.drop off with | .int .u8 kind::.complex .f64 a1 a2::.complex .f64 s1 s2::.float .f64 p::_=>k kind a1 a2 s1 s2 p|_=>none
def aWk(P:Q9)(t:I9):Prop:=∀(R:Type)(cs:List V9)(off:Nat)(k:KVO R),aCx P t cs off k=(cs[off]?).bind k
def tO(P:Q9)(t:I9)(n:Nat):Prop:=∀(R:Type)(cs:List V9)(off:Nat)(k:KVO R),aCx P t cs off k=bif Nat.ble (off+n) cs.length&&true then k (.agg ⟨(cs.drop off).take n⟩) else none
theorem bTn{P:Q9}{t:I9}(h:aWk P t):bJx P t (gC rC):=λR cs off k r hr=>by
 unfold gC rC at hr;split at hr;· rename_i a b hc;exact⟨_,hr,λR' k'=>by rw[h,hc];rfl⟩
 ·cases hr
theorem aJk{cs l r:List V9}{off:Nat}(hc:cs.drop off=l++r)(hne:0<l.length):Nat.ble (off+l.length) cs.length=true/\(cs.drop off).take l.length=l:=by have h1:=congrArg List.length hc;rw[List.length_drop,List.length_append]at h1;refine⟨iJ (by omega),?_⟩;rw[hc,List.take_left]
theorem bMl{P:Q9}{t:I9}(h:tO P t 4):bJx P t (gEl rEl):=λR cs off k r hr=>by
 unfold gEl rEl at hr;split at hr;· rename_i kind a1 a2 s1 s2 p rest hc;obtain⟨g1,g2⟩:=aJk (l:=[.int .u8 kind,.complex .f64 a1 a2,.complex .f64 s1 s2,.float .f64 p]) (r:=rest) hc (by simp);refine⟨_,hr,λR' k'=>?_⟩;simp only[List.length_cons,List.length_nil]at g1 g2;rw[h,g1,g2];rfl
 ·cases hr
def rSt:St:=λR cs off vs k=>bif Nat.ble (off+vs.length) cs.length then k (splice cs off vs) else none
theorem bU3:cCt rSt:=λR cs off vs k r h=>by
 unfold rSt at h;cases hb:Nat.ble (off+vs.length) cs.length with
 |false=>rw[hb]at h;cases h
 |true=>rw[hb]at h;rw[Nat.ble_eq]at hb;exact⟨hb,h⟩
def rAp(P:Q9):Ap:=λR t cs n c cx off m k=>
 match P.underlying t with
 |some (.slice e)=>
  match P.info? e with
  |some i=>
   match i.zero with
   |some z=>
    bif Nat.blt 0 i.size&&N9 z.cells.size i.size&&N9 c n&&Nat.blt 0 m&&Nat.ble ((n+m)*i.bytes) 140737488355328&&Nat.ble (n+m) 1099511627776&&N9 cs.length (n*i.size)&&N9 ((cx.drop off).take (m*i.size)).length (m*i.size)&&mK ((cx.drop off).take (m*i.size)) then
     k (cs++(cx.drop off).take (m*i.size))
    else none
   |none=>none
  |none=>none
 |_=>none
theorem bU1(P:Q9):cCo P (rAp P):=λR t cs n c cx off m k r h=>by
 unfold rAp at h;split at h
 case h_2=>cases h
 rename_i e hu;split at h
 case h_2=>cases h
 rename_i i hi;split at h
 case h_2=>cases h
 rename_i z hz;cases hb:(Nat.blt 0 i.size&&N9 z.cells.size i.size&&N9 c n&&Nat.blt 0 m&&Nat.ble ((n+m)*i.bytes) 140737488355328&&Nat.ble (n+m) 1099511627776&&N9 cs.length (n*i.size)&&N9 ((cx.drop off).take (m*i.size)).length (m*i.size)&&mK ((cx.drop off).take (m*i.size))) with
 |false=>rw[hb]at h;cases h
 |true=>rw[hb]at h;simp only[Bool.and_eq_true]at hb;obtain⟨⟨⟨⟨⟨⟨⟨⟨b1,b2⟩,b3⟩,b4⟩,b5⟩,b6⟩,b7⟩,b8⟩,b9⟩:=hb;rw[Nat.blt_eq]at b1 b4;rw[Nat.ble_eq]at b5 b6;exact⟨e,i,z,hu,hi,hz,b1,gO b2,gO b3,b4,b5,b6,gO b7,gO b8,b9,h⟩
def bX0:List (Nat×Ld)->I9->Option Ld
 |[],_=>none
 |(n,s)::r,f=>bif N9 n f then some s else bX0 r f
def bX2:List (Nat×aDo)->F9->Option aDo
 |[],_=>none
 |(n,s)::r,f=>bif N9 n f then some s else bX2 r f
inductive aNv(P:Q9):List (Nat×Ld)->Prop
 |nil:aNv P []
 |cons {t:Nat} {g:Ld} {r:List (Nat×Ld)} (h:bJx P t g) (hs:aNv P r):aNv P ((t,g)::r)
theorem bIg{P:Q9}{t:Nat}{g:Ld}:∀{l:List (Nat×Ld)},aNv P l->bX0 l t=some g->bJx P t g
 |_,.nil,h=>by cases h
 |(u,s)::r,.cons h hs,hg=>by
  unfold bX0 at hg;cases hb:N9 u t with
  |true=>rw[hb]at hg;cases hg;have:=gO hb;subst this;exact h
  |false=>rw[hb]at hg;exact bIg hs hg
def aPh(lim:Nat->Bool)(ld:List (Nat×Ld))(st:St)(ap:Ap):Mm:=⟨lim,bX0 ld,st,ap⟩
theorem jX{P:Q9}{lim:Nat->Bool}{ld:List (Nat×Ld)}(h:aNv P ld):(aPh lim ld rSt (rAp P)).Ok P:=⟨λt g hg=>bIg h hg,bU3,bU1 P⟩
inductive aWj(P:Q9):List (Nat×vP)->Prop
 |nil:aWj P []
 |cons {f:Nat} {g:vP} {r:List (Nat×vP)} (h:aDn P f g) (hf:Has P f) (hs:aWj P r):aWj P ((f,g)::r)
theorem bSn{P:Q9}{f:Nat}{g:vP}:∀{l:List (Nat×vP)},aWj P l->bXj l f=some g->aDn P f g/\Has P f
 |_,.nil,h=>by cases h
 |(u,s)::r,.cons h hf hs,hg=>by
  unfold bXj at hg;cases hb:N9 u f with
  |true=>rw[hb]at hg;cases hg;have:=gO hb;subst this;exact⟨h,hf⟩
  |false=>rw[hb]at hg;exact bSn hs hg
inductive bJy(P:Q9):List (Nat×aDo)->Prop
 |nil:bJy P []
 |cons {f:Nat} {g:aDo} {r:List (Nat×aDo)} (h:aGw P f g) (hf:Has P f) (hs:bJy P r):bJy P ((f,g)::r)
theorem bT2{P:Q9}{f:Nat}{g:aDo}:∀{l:List (Nat×aDo)},bJy P l->bX2 l f=some g->aGw P f g/\Has P f
 |_,.nil,h=>by cases h
 |(u,s)::r,.cons h hf hs,hg=>by
  unfold bX2 at hg;cases hb:N9 u f with
  |true=>rw[hb]at hg;cases hg;have:=gO hb;subst this;exact⟨h,hf⟩
  |false=>rw[hb]at hg;exact bT2 hs hg
def cxM(fi:Fi)(P:Q9)(meths:I9->String->Option F9)(l es:List (Nat×Sum))(gl:List (Nat×vP))(ml:List (Nat×aDo))(M:Mm):Cx:=
 {P:=P,sums:=tab l,exts:=tab es,meths:=meths,wild:=λ_=>false,fi:=fi,nn:=false,nan1:=λ_=>false,defs:=λ_=>false,hs:=λ_ _ _=>none,gs:=bXj gl,mg:=bX2 ml,mm:=some M }
theorem lS{P:Q9}{meths:I9->String->Option F9}(hm:∀t s f,meths t s=some f->∀v w,(method (P.types.size+Made.depth) t v s).run P w=.ok (f,v) w){l es:List (Nat×Sum)}(hl:mE P l)(he:∀f g,tab es f=some g->xS P f g){gl:List (Nat×vP)}(hg:aWj P gl){ml:List (Nat×aDo)}(hml:bJy P ml){M:Mm}(hM:M.Ok P):(cxM aG P meths l es gl ml M).Ok where
 fair:=aI
 sums:=λf g hg=>aCq hl f g hg
 exts:=he
 meths:=hm
 hs:=λf args H v h=>by cases h
 nan1:=λf hf=>by cases hf
 gs:=λf g h=>bSn hg h
 ms:=λf args H p h=>by cases h
 mg:=λf g h=>bT2 hml h
 mm:=λM' h=>by cases h;exact hM
def lJ:Nat->H9->H9
 |0,c=>c
 |n+1,c=>lJ n (cGh c)
def aZ6(lo:Nat)(bo:List Nat):dF->Bool
 |[]=>true
 |(k,_)::r=>(Nat.ble lo k||bo.contains k)&&aZ6 lo bo r
theorem aMn{lo k:Nat}{bo:List Nat}{o:qQ}:∀{O:dF},aZ6 lo bo O=true->(k,o)∈O->k<lo->k∈bo
 |[],_,h,_=>by simp at h
 |(j,u)::r,g,h,hk=>by
  simp only[aZ6,Bool.and_eq_true,Bool.or_eq_true,Nat.ble_eq,List.contains_iff_mem]at g;rcases List.mem_cons.1 h with e|h
  ·cases e;rcases g.1 with g|g
   ·omega
   ·exact g
  ·exact aMn g.2 h hk
theorem aEn{k:Nat}{o:qQ}:∀{S:dF},(k,o)∈S->∃o',aCg k S=some o'
 |[],h=>by simp at h
 |(j,u)::r,h=>by
  unfold aCg;cases hb:N9 j k with
  |true=>exact⟨u,rfl⟩
  |false=>
   rcases List.mem_cons.1 h with e|h;· cases e;simp at hb
   ·exact aEn h
theorem aKn{k:Nat}{o:qQ}{O:dF}(hl:aCg k O=some o):∀{bo:List Nat},k∈bo->(k,o)∈vL bo O
 |[],h=>by simp at h
 |b::r,h=>by
  unfold vL;rcases List.mem_cons.1 h with rfl|h;· rw[hl];exact List.mem_cons_self
  ·split
   ·exact List.mem_cons_of_mem _ (aKn hl h)
   ·exact aKn hl h
def eS(ts bo:List Nat)(L:qR):qR:=λR lo sz a e H k=>bif aZ6 lo bo H.objs then L R lo sz a (aGt ts e) ⟨H.next,vL bo H.objs⟩ k else none
theorem dJ{P:Q9}{ts bo:List Nat}{L:qR}{a:H9}(h:LOk P L a):LOk P (eS ts bo L) a:=λR lo sz e H k r hr=>by
 unfold eS at hr;cases hb:aZ6 lo bo H.objs with
 |false=>rw[hb]at hr;cases hr
 |true=>
  rw[hb]at hr;obtain⟨ex,e',H',g1,g2⟩:=h R lo sz _ _ k r hr;refine⟨ex,e',H',g1,λ{ρ w act} hi hlo he hs Q hQ=>?_⟩;refine g2 (hi.sub λx hx=>sQ hx) hlo (λt v hv=>he t v (oR hv)) hs Q λρ' a' w' m1 m2 m3 m4=>hQ ρ' a' w' (m1.sup (λx hx=>sQ hx) λk o hk hm=>?_) m2 m3 m4
  obtain⟨o',ho'⟩:=aEn hm;have:=hi.one k o o' hm (kS ho');subst this;exact aKn ho' (aMn hb hm hk)
def orL(t:Nat)(A B:qR):qR:=λR lo sz a e H k=>match rZ t e with
 |some _=>A R lo sz a e H k
 |none=>B R lo sz a e H k
theorem aCh{P:Q9}{t:Nat}{A B:qR}{a:H9}(hA:LOk P A a)(hB:LOk P B a):LOk P (orL t A B) a:=λR lo sz e H k r h=>by
 unfold orL at h;split at h;· exact hA R lo sz e H k r h
 ·exact hB R lo sz e H k r h
theorem qU{P:Q9}{a:H9}:LOk P noL a:=λR lo sz e H k r h=>by cases h
noncomputable def told(P:Q9)(ex:Ex)(e':Env)(H':AH):qR:=λR lo sz a e H k=>
 open Classical in if iE P lo sz e H ex e' H' (λQ act w=>H9.wp P (.loop a) Q act w) then k ex e' H' else none
theorem gN(P:Q9)(ex:Ex)(e':Env)(H':AH)(a:H9):LOk P (told P ex e' H') a:=λR lo sz e H k r h=>by
 unfold told at h;split at h;· rename_i hc;exact⟨ex,e',H',h,hc⟩
 ·cases h
theorem gT{P:Q9}{ex:Ex}{e':Env}{H':AH}{lo sz:Nat}{a:H9}{e:Env}{H:AH}(h:iE P lo sz e H ex e' H' (λQ act w=>H9.wp P (.loop a) Q act w))(R:Type)(k:Ex->Env->AH->Option R):
  told P ex e' H' R lo sz a e H k=k ex e' H':=by
 unfold told;exact if_pos @h
theorem aRx{C:Cx}(hC:C.Ok)(hmix:C.P.follows .mixedOrders=true){n lo sz:Nat}{c:H9}{L:qR}(hL:∀a∈fP c,LOk C.P L a){e0:Env}{H:AH}{ts bo:List Nat}{ex:Ex}{e':Env}{O:dF}(h:bE C n L lo sz c e0 H (aU ts bo λex e O=>some (ex,e,O))=some (ex,e',O)):
  ∃H',O=vL bo H'.objs/\iE C.P lo sz e0 H ex e' H' (λQ a w=>c.wp C.P Q a w):=by
 obtain⟨ex1,e1,H1,g1,g2⟩:=pE hC hmix c (L:=L) (n:=n) hL _ _ _ _ h;unfold aU at g1;cases g1;exact⟨H1,rfl,iE.env @g2 (λt v h=>h) λt v h=>oR h⟩
theorem zU{k:Nat}{o:qQ}{O:dF}:∀{bo:List Nat},aCg k (vL bo O)=some o->aCg k O=some o
 |[],h=>by cases h
 |b::r,h=>by
  unfold vL at h;split at h
  ·rename_i o' ho;unfold aCg at h;cases hb:N9 b k with
   |true=>rw[hb]at h;cases h;have:=gO hb;subst this;exact ho
   |false=>rw[hb]at h;exact zU h
  ·exact zU h
theorem wO{P:Q9}{e:Env}{bo:List Nat}{n:Nat}{H:AH}:∀{l:List ResultVar}{vs:List V9},aCn P e ⟨n,vL bo H.objs⟩ l=some vs->aCn P e H l=some vs
 |[],vs,h=>h
 |.tmp t::r,vs,h=>by simp only[aCn]at h;obtain⟨v,h1,h2⟩:=aB h;obtain⟨us,h3,h4⟩:=aB h2;simp only[aCn,h1,wO h3,D9];exact h4
 |.cell t ty::r,vs,h=>by
  simp only[aCn]at h;obtain⟨p,h1,h2⟩:=aB h;split at h2
  ·rename_i ad;split at h2
   ·rename_i cs sz hl;obtain⟨v,k1,k2⟩:=yO h2;obtain⟨us,h3,h4⟩:=aB k1;simp only[aCn,h1,D9,zU hl];unfold aCx at h2⊢;cases hr:aCd P ty with
    |true=>
     rw[hr]at h2;simp only[T7]at h2⊢;cases hb:(Nat.ble (ad.off+P.cellsOf ty) cs.length && !N9 (P.cellsOf ty) 0) with
     |false=>rw[hb]at h2;cases h2
     |true=>rw[hb]at h2;simp only[T7]at h2⊢;obtain⟨us2,q1,q2⟩:=aB h2;rw[wO q1];exact q2
    |false=>
     rw[hr]at h2;simp only[F7]at h2⊢;cases hb:(P.underlying ty).isSome with
     |false=>rw[hb]at h2;cases h2
     |true=>rw[hb]at h2;simp only[T7]at h2⊢;obtain⟨v2,q0,h5⟩:=aB h2;obtain⟨us2,q1,q2⟩:=aB h5;rw[q0,D9,wO q1];exact q2
   ·cases h2
  ·cases h2
theorem fK{C:Cx}(hC:C.Ok)(hmix:C.P.follows .mixedOrders=true){n:Nat}{f:F9}{fn:Func}{c:H9}(hf:C.P.funcs[f]?=some fn)(hb:fn.body=some c){L:qR}(hL:∀a∈fP c,LOk C.P L a){args:List V9}{H:AH}{ts bo:List Nat}{ex:Ex}{e':Env}{O:dF}{vs:List V9}(hl:args.length<=fn.ntmps)(h:bE C n L H.next fn.ntmps c (gX 0 args) H (aU ts bo λex e O=>some (ex,e,O))=some (ex,e',O))(hex:ex=.normal\/ex=.ret)(hr:aCn C.P e' ⟨0,O⟩ fn.results.toList=some vs)(hfl:flat (rH vs)=true):
  ∀ρ w args',Inv ρ H w->cF ρ args args'->Calls C.P f ⟨args'⟩ w λe w'=>e=.returned (rH vs)/\RowKit.Below w.heap.size w w':=by
 obtain⟨H',hO,g⟩:=aRx hC hmix hL h;rw[hO]at hr;exact aD1 hf hb hl @g hex (wO hr) hfl
theorem aI5{C:Cx}(hC:C.Ok)(hmix:C.P.follows .mixedOrders=true){n:Nat}{f:F9}{fn:Func}{c:H9}(hf:C.P.funcs[f]?=some fn)(hb:fn.body=some c){L:qR}(hL:∀a∈fP c,LOk C.P L a){args:List V9}{H:AH}{ts bo:List Nat}{ex:Ex}{e':Env}{O:dF}{vs:List V9}(hl:args.length<=fn.ntmps)(h:bE C n L H.next fn.ntmps c (gX 0 args) H (aU ts bo λex e O=>some (ex,e,O))=some (ex,e',O))(hex:ex=.normal\/ex=.ret)(hr:aCn C.P e' ⟨0,O⟩ fn.results.toList=some vs):
  ∃H',(∀x,x∈O->x∈H'.objs)/\∀ρ w args',Inv ρ H w->cF ρ args args'->Calls C.P f ⟨args'⟩ w λe w'=>∃ρ' v',e=.returned v'/\dW ρ' (rH vs) v'/\Next H.next ρ H w ρ' H' w':=by
 obtain⟨H',hO,g⟩:=aRx hC hmix hL h;rw[hO]at hr;exact⟨H',λx hx=>sQ (by rw[hO]at hx;exact hx),aUm hf hb hl @g hex (wO hr)⟩
def aD(P:Q9)(f:F9)(args:List V9)(H:AH)(v:V9):Prop:=
 ∀ρ w args',Inv ρ H w->cF ρ args args'->Calls P f ⟨args'⟩ w λe w'=>e=.returned v/\RowKit.Below w.heap.size w w'
def oK(P:Q9)(f:F9)(args:List V9)(H:AH)(v:V9)(H':AH):Prop:=
 ∀(lo:Nat)(ρ:Map)(w:World)(args':List V9),Inv ρ H w->lo<=H.next->cF ρ args args'->Calls P f ⟨args'⟩ w λe w'=>∃ρ' v',e=.returned v'/\dW ρ' v v'/\Next lo ρ H w ρ' H' w'
def only(b:Nat)(k:Nat):Option Nat:=bif N9 k 0 then some b else none
theorem uE{b j k:Nat}(h:only b j=some k):j=0/\k=b:=by
 unfold only at h;cases hb:N9 j 0 with
 |true=>rw[hb]at h;cases h;exact⟨gO hb,rfl⟩
 |false=>rw[hb]at h;cases h
theorem vO{b:Nat}{cs:List V9}{sz:Nat}{H:AH}(hf:kZ 0 cs=true)(hm:(b,.cells cs sz)∈H.objs):Within (only b) ⟨1,[(0,.cells cs sz)]⟩ H where
 obj:=λj o h=>by
  simp only[List.mem_singleton,Prod.mk.injEq]at h;obtain⟨rfl,rfl⟩:=h;exact⟨b,.cells cs sz,rfl,by simp[pN,bQ hf],hm⟩
 lt:=λj o h=>by
  simp only[List.mem_singleton,Prod.mk.injEq]at h;show j<1;omega
 one:=λj o o' h1 h2=>by
  simp only[List.mem_singleton,Prod.mk.injEq]at h1 h2;rw[h1.2,h2.2]
 inj:=λj j' k h1 h2=>by rw[(uE h1).1,(uE h2).1]
 dom:=λj k h=>by rw[(uE h).1];exact Nat.zero_lt_one
theorem aD.one{P:Q9}{f:F9}{argsc args:List V9}{H:AH}{b sz:Nat}{cs:List V9}{v:V9}(h:aD P f argsc ⟨1,[(0,.cells cs sz)]⟩ v)(hf:kZ 0 cs=true)(hm:(b,.cells cs sz)∈H.objs)(ha:qJ (only b) argsc=some args):aD P f args H v:=
 tS (vO hf hm) ha h
abbrev HT:=∀R:Type,List V9->AH->Option R->Option R
def bF(v:V9)(g:HT):vP:=λR args H k=>g R args H (k v)
noncomputable def fJ(P:Q9)(f:F9)(v:V9):HT:=λR args H k=>
 letI:=Classical.propDecidable
 if aD P f args H v then k else none
theorem gL{P:Q9}{f:F9}{v:V9}(hv:flat v=true):aDn P f (bF v (fJ P f v)):=λR args H k r h=>by
 unfold bF fJ at h;split at h;· rename_i hc;exact⟨v,h,hv,hc⟩
 ·cases h
theorem cO{P:Q9}{f:F9}{v:V9}{R:Type}{args:List V9}{H:AH}{k:Option R}(h:aD P f args H v):fJ P f v R args H k=k:=by unfold fJ;exact if_pos h
abbrev MT:=∀R:Type,List V9->AH->(List V9->Option R)->Option R
def jA(sz:Nat)(v:Nat->V9)(g:MT):aDo:=λR args H k=>g R args H λcs=>k (v H.next) (H.push (.cells cs sz))
noncomputable def jL(P:Q9)(f:F9)(sz:Nat)(v:Nat->V9)(cs:List V9):MT:=λR args H k=>
 letI:=Classical.propDecidable
 if oK P f args H (v H.next) (H.push (.cells cs sz)) then k cs else none
theorem aEl{P:Q9}{f:F9}{sz:Nat}{v:Nat->V9}{cs:List V9}:aGw P f (jA sz v (jL P f sz v cs)):=λR args H k r h=>by
 unfold jA jL at h;split at h;· rename_i hc;exact⟨_,_,h,hc⟩
 ·cases h
theorem sE{P:Q9}{f:F9}{sz:Nat}{v:Nat->V9}{cs:List V9}{R:Type}{args:List V9}{H:AH}{k:List V9->Option R}(h:oK P f args H (v H.next) (H.push (.cells cs sz))):jL P f sz v cs R args H k=k cs:=by unfold jL;exact if_pos h
open Go.Proofs
noncomputable def bB(n:Nat):H9:=match Tryz.prog.funcs[n]? with
 |none=>.skip
 |some fn=>match fn.body with
  |some c=>c
  |none=>.skip
noncomputable def sI(c:H9)(n:Nat):H9:=match(fP c)[n]? with|some a=>a|none=>.skip
theorem cAl:aWk P9 32:=λR cs off k=>by kernel_rfl
theorem bT0:tO P9 39 4:=λR cs off k=>by kernel_rfl
theorem cG9(R:Type)(k:KVO R):fC (cx P9 []) 60 70 [] k=k (.tuple ⟨[.float .f64 4614256656552045848,.float .f64 4368955796522032135]⟩):=by kernel_rfl
theorem bWs(R:Type) t (k:KVO R):fC (cx P9 [(70,sPi)]) 60 154 [.float .f64 t] k=bDl R t λx=>k (.float .f64 x):=by kernel_rfl
theorem cB9(R:Type) t (k:KVO R):fC (cx P9 []) 60 153 [.float .f64 t] k=bX3 R t λx=>k (.float .f64 x):=by kernel_rfl
theorem cB6(fi:Fi)(g0 gp gm:KFB)(pa:aH6)(odd:KFF)(R:Type) t (k:KVO R):fC (cxf fi P9 [(73,aP7 g0 gp gm),(76,aAs),(74,aM3),(111,aGr pa),(153,sFF odd)] []) 60 151 [.float .f64 t] k =
 cEi fi gp pa odd R t λx=>k (.float .f64 x):=by kernel_rfl
theorem bW0(fi:Fi)(R:Type) t (k:KVO R):fC (cxf fi P9 [] []) 60 157 [.float .f64 t] k=bVj fi R t λt=>k (.bool t):=by kernel_rfl
theorem bP0(sg:KFB)(R:Type) t (k:KVO R):fC (cx P9 [(157,sFB sg)]) 60 155 [.float .f64 t] k=bIo sg R t λt=>k (.bool t):=by kernel_rfl
theorem bG1(mi:KFB)(ab:KFF)(R:Type) a b (k:KVO R):fC (cx P9 [(155,sFB mi),(21,sFF ab)]) 60 156 [.float .f64 a,.float .f64 b] k=bBb mi ab R a b λx=>k (.float .f64 x):=by kernel_rfl
theorem bPv(ab:KFF)(g0 gp gm:KFB)(core:KFF)(mi:KFB)(sd:vS)(R:Type) a b (k:KVO R):
 fC (cx P9 [(21,sFF ab),(73,aP7 g0 gp gm),(70,sPi),(154,sFF core),(155,sFB mi),(156,aGc sd),(76,aAs)]) 60 152 [.float .f64 a,.float .f64 b] k=bHd ab gp core mi sd R a b λx=>k (.float .f64 x):=by kernel_rfl
theorem bGz(len:KCF)(lg:KFF)(an:vS)(R:Type) a b (k:KVO R):fC (cx P9 [(29,sCF len),(151,sFF lg),(152,aGc an)]) 60 150 [.complex .f64 a b] k=bAp len lg an R a b λx y=>k (.complex .f64 x y):=by kernel_rfl
def aLk:KEI:=cT cK cJ bJ wh1
def cEq:∀R:Type,Nat->Nat->Nat->Nat->Nat->Nat->(Int->Option R)->(Nat->Nat->Option R)->Option R:=spS aLk cK bJ aP gJ
def cEp:∀R:Type,Nat->Nat->Nat->Nat->Nat->Nat->(Int->Option R)->(Nat->Nat->Option R)->Option R:=spO aLk cK bJ aP gJ rN eQ
def cEo:∀R:Type,Nat->Nat->Nat->Nat->Nat->Nat->(Int->Option R)->(Nat->Nat->Option R)->Option R:=spD aLk cK bJ aP gJ rN dV eQ
def hot:List (Nat×Sum):=[(84,sEI aLk),(28,sSp cEq cEp cEo),(108,bC0 yC),(109,sCB cK),(110,sCB bJ),(114,bX8),(90,sW2 dV),(21,sFF kO),(43,jH dV),(26,jH jJ),(35,jH gJ),(113,bNv cJ),(92,aP3 jQ),(93,sFB dG),(91,sCB aP),(89,jH rN),(45,sCC sU),
 (73,aP7 xX aBk aJd),(74,aM3),(75,sFB xY),(125,aGr aVl),(117,aGr mR),(94,aGr mR),(111,aGr mR),(126,aGc aIp),
 (119,aP4 pB),(95,aP4 pB),(79,aP4 wP),(77,sCF sA),(78,bVc yU),(81,sCF wR),(80,sFF aGs),(29,sCF cQ),(15,tF eQ),
 (70,sPi),(154,sFF bDl),(153,sFF bX3),(151,sFF bZ9),(157,sFB bN1),(155,sFB aSn),(156,aGc aQc),(152,aGc aK6),(150,sCC aJ1)]
def bEz(t:I9)(s:String):Option F9:=
 bif s == "eddy/element.speed" then
  (bif N9 t 141 then some 149 else bif N9 t 143 then some 160 else bif N9 t 145 then some 164 else bif N9 t 147 then some 171 else bif N9 t 148 then some 174 else none)
 else bif s == "eddy/element.potential" then
  (bif N9 t 141 then some 147 else bif N9 t 143 then some 158 else bif N9 t 145 then some 162 else bif N9 t 147 then some 169 else bif N9 t 148 then some 172 else none)
 else bif s == "eddy/element.slope" then
  (bif N9 t 141 then some 148 else bif N9 t 143 then some 159 else bif N9 t 145 then some 163 else bif N9 t 147 then some 170 else bif N9 t 148 then some 173 else none)
 else none
def bV7(f:F9):Bool:=N9 f 98
def cGb(f:F9):Bool:=N9 f 21
def cxe(P:Q9)(l:List (Nat×Sum)):Cx:={ P:=P,sums:=tab l,exts:=λ_=>none,meths:=bEz,wild:=λ_=>false,fi:=aG,nn:=false,nan1:=λ_=>false,defs:=λ_=>false,hs:=λ_ _ _=>none }
def cCy:List (Nat×Sum):=[(57,aKw),(58,bPp),(127,aH3 .even),(128,aH3 .zero)]
def cxm(P:Q9)(l:List (Nat×Sum)):Cx:={ P:=P,sums:=tab l,exts:=tab cCy,meths:=bEz,wild:=bV7,fi:=aG,nn:=true,nan1:=cGb,defs:=λf=>N9 f 48,hs:=λ_ _ _=>none }
theorem cCm(R:Type)(k:KVO R):fC (cx P9 []) 60 114 [.float .f64 4607182418800017408] k=k (.bool true):=by kernel_rfl
theorem bP1(wi:aNo)(R:Type) a b (k:KVO R):fC (cx P9 [(92,aP3 wi)]) 60 109 [.complex .f64 a b] k=aTb wi R a b λt=>k (.bool t):=by kernel_rfl
theorem bCr(R:Type) a b (k:KVO R):fC (cx P9 []) 60 110 [.complex .f64 a b] k=bJ R a b λt=>k (.bool t):=by kernel_rfl
theorem aKx(re:KCB)(wi:aA1)(no:KCB)(wh:KFB)(R:Type) kind a1 a2 s1 s2 p (k:KVO R):
 fC (cx P9 [(109,sCB re),(113,bNv wi),(110,sCB no),(114,sFB wh)]) 60 84 [el kind a1 a2 s1 s2 p] k=cT re wi no wh R kind a1 a2 s1 s2 p λe=>k (.int .i64 e):=by kernel_rfl
theorem bG3(mul:gU)(R:Type) a b (k:KVO R):fC (cx P9 [(43,jH mul)]) 60 90 [.complex .f64 a b,.int .i64 2] k=mul R a b a b λx y=>k (.complex .f64 x y):=by kernel_rfl
theorem cCk(re:KCB)(wi:aA1)(no fin:KCB)(wh:KFB)(sub:gU)(R:Type) a1 a2 s1 s2 z1 z2 (k:KVO R):
 fC (cxe P9 [(84,sEI (cT re wi no wh)),(109,sCB re),(110,sCB no),(91,sCB fin),(35,jH sub)]) 60 28 [el 1 a1 a2 s1 s2 0,.complex .f64 z1 z2] k =
  spS (cT re wi no wh) re no fin sub R a1 a2 s1 s2 z1 z2 (mL k) (zOk k):=by kernel_rfl
theorem cCj(re:KCB)(wi:aA1)(no fin:KCB)(wh:KFB)(sub div:gU)(scl:mO)(R:Type) a1 a2 s1 s2 z1 z2 (k:KVO R):
 fC (cxe P9 [(84,sEI (cT re wi no wh)),(109,sCB re),(110,sCB no),(91,sCB fin),(35,jH sub),(89,jH div),(15,tF scl),(70,sPi)]) 60 28 [el 2 a1 a2 s1 s2 0,.complex .f64 z1 z2] k =
  spO (cT re wi no wh) re no fin sub div scl R a1 a2 s1 s2 z1 z2 (mL k) (zOk k):=by kernel_rfl
theorem cCi(re:KCB)(wi:aA1)(no fin:KCB)(sub div mul:gU)(scl:mO)(R:Type) a1 a2 s1 s2 z1 z2 (k:KVO R):
 fC (cxe P9 [(84,sEI (cT re wi no wh1)),(109,sCB re),(110,sCB no),(114,bX8),(91,sCB fin),(35,jH sub),(89,jH div),(15,tF scl),(90,sW2 mul)]) 60 28 [el 3 a1 a2 s1 s2 4607182418800017408,.complex .f64 z1 z2] k =
  spD (cT re wi no wh1) re no fin sub div mul scl R a1 a2 s1 s2 z1 z2 (mL k) (zOk k):=by kernel_rfl
theorem bP4(R:Type) y (k:KVO R):fC (cx P9 []) 60 108 [.float .f64 y] k=yC R y λs c=>k (.tuple ⟨[.float .f64 s,.float .f64 c]⟩):=by kernel_rfl
theorem aFn{P : Q9}{f : F9}{fn : Func}{ext : Array V9 -> Sem V9}(h1 : P.funcs[f]? = some fn) (h2 : (fn.name == "runtime.NumGoroutine") = false) (h3 : fn.body.isNone = true)
  (h4:Extern.find fn=some ext) (h5:(Extern.findNext fn).isNone=true) {args:Array V9} {v:V9} (h6:ext args=pure v) (w:World):(callFunc f args).run P w=.ok (.value v) w:=by
 have h5':Extern.findNext fn=none:=by simpa using h5
 have h2' : fn.name ≠ "runtime.NumGoroutine" := by simpa using h2
 have h3':fn.body=none:=by simpa using h3
 unfold callFunc;simp[Sem.run_bind,h1,h2',h3',h4,h5',h6]
theorem cCv:xS P9 57 aKw:=by
 intro R args k r hr;unfold aKw at hr;split at hr;· rename_i n;rw[cB]at hr;exact⟨rfl,_,hr,rfl,λw=>aFn Tryz.func57 (by kernel_rfl) (by kernel_rfl) (show Extern.find Tryz.f57=some Extern.MathFloatBits.float64frombits by kernel_rfl) (by kernel_rfl) rfl w⟩
 ·cases hr
theorem cE1:xS P9 58 bPp:=by
 intro R args k r hr;unfold bPp at hr;split at hr;· rename_i b;rw[aI]at hr;exact⟨rfl,_,hr,rfl,λw=>aFn Tryz.func58 (by kernel_rfl) (by kernel_rfl) (show Extern.find Tryz.f58=some Extern.MathFloatBits.float64bits by kernel_rfl) (by kernel_rfl) rfl w⟩
 ·cases hr
theorem aNm{name:String}{way:Ieee.Toward}{x:Nat}{d:Ieee.Datum}(h:Ieee.double.read x=d)(hd:∀s t,d≠.nan s t):
  Extern.MathFloor.toIntegral name way #[.float .f64 x]=pure (.float .f64 (Ieee.double.write (d.integral way))):=by
 show(match Ieee.double.read x with | .nan s t=>_|d=>pure (V9.float .f64 (Ieee.double.write (d.integral way))))=_;rw[h];cases d with
 |number s m e=>rfl
 |infinity s=>rfl
 |nan s t=>exact absurd rfl (hd s t)
theorem cCw:xS P9 127 (aH3 .even):=by
 intro R args k r hr;unfold aH3 at hr;split at hr
 ·rename_i x;split at hr
  ·cases hr
  ·rename_i d hd;rw[cB]at hr;exact ⟨rfl, _, hr, rfl, fun w => aFn Tryz.func127 (by kernel_rfl) (by kernel_rfl) (show Extern.find Tryz.f127 = some (Extern.MathFloor.toIntegral "math.RoundToEven" .even) by kernel_rfl) (by kernel_rfl) (aNm rfl hd) w⟩
 ·cases hr
theorem bYx:xS P9 128 (aH3 .zero):=by
 intro R args k r hr;unfold aH3 at hr;split at hr
 ·rename_i x;split at hr
  ·cases hr
  ·rename_i d hd;rw[cB]at hr;exact ⟨rfl, _, hr, rfl, fun w => aFn Tryz.func128 (by kernel_rfl) (by kernel_rfl) (show Extern.find Tryz.f128 = some (Extern.MathFloor.toIntegral "math.archTrunc" .zero) by kernel_rfl) (by kernel_rfl) (aNm rfl hd) w⟩
 ·cases hr
inductive aK0(P:Q9):List (Nat×Sum)->Prop
 |nil:aK0 P []
 |cons {f:Nat} {g:Sum} {r:List (Nat×Sum)} (h:xS P f g) (hr:aK0 P r):aK0 P ((f,g)::r)
theorem yJ{P:Q9}:∀{l:List (Nat×Sum)},aK0 P l->∀f g,tab l f=some g->xS P f g
 |_,.nil,f,g,h=>by simp[tab]at h
 |_,.cons (f:=n) h hr,f,g,h'=>by
  unfold tab at h';cases hb:N9 n f with
  |true=>rw[hb]at h';cases h';rw[gO hb]at h;exact h
  |false=>rw[hb]at h';exact yJ hr f g h'
theorem aXx:aK0 P9 cCy:=.cons cCv (.cons cE1 (.cons cCw (.cons bYx .nil)))
open Ieee
theorem aB3(y i:Nat):y &&&2^i=(y.testBit i).toNat*2^i:=by
 apply Nat.eq_of_testBit_eq;intro j;rw[Nat.testBit_and,Nat.testBit_two_pow];by_cases h:i=j
 ·subst h;cases y.testBit i
  ·simp
  ·simp[Nat.testBit_two_pow_self]
 ·cases y.testBit i
  ·simp[h]
  ·simp[Nat.testBit_two_pow,h]
theorem aT3{s:Bool}{E f:Nat}(hE:E<=2046)(hf:f<2^52):rT ((((if s then 2^63 else 0)+E*2^52+f:Nat)):Int) 9218868437227405312=(((if s then 2^63 else 0)+f:Nat):Int):=by
 have hlt:(if s then 2^63 else 0)+E*2^52+f<2^64:=by split<;>omega
 have h1:=aUi (a:=(if s then 2^63 else 0)+E*2^52+f) (b:=9218868437227405312) hlt (by decide);have hm:2^64-1-9218868437227405312=2^63 |||(2^52-1):=by decide
 rw[hm,Nat.and_or_distrib_left,Nat.and_two_pow_sub_one_eq_mod,aB3]at h1;have h2:((if s then 2^63 else 0)+E*2^52+f).testBit 63=s:=by
  rw[Nat.testBit_eq_decide_div_mod_eq];cases s
  ·simp only[Bool.false_eq_true,if_false];have:(0+E*2^52+f)/2^63%2=0:=by omega
   rw[this];rfl
  ·simp only[if_true];have:(2^63+E*2^52+f)/2^63%2=1:=by omega
   rw[this];rfl
 have h3:((if s then 2^63 else 0)+E*2^52+f)%2^52=f:=by
  cases s;· simp only[Bool.false_eq_true,if_false];omega
  ·simp only[if_true];omega
 rw[h2,h3]at h1;rw[show((9218868437227405312:Nat):Int)=9218868437227405312 by rfl]at h1;rw[h1];congr 1;cases s;· simp
 ·simp only[Bool.toNat_true,Nat.one_mul,if_true];have:=Nat.two_pow_add_eq_or_of_lt (i:=63) (b:=f) (by omega) 1;rw[Nat.mul_one]at this;exact this.symm
theorem bIf{s:Bool}{E f:Nat}(hE:E<=2047)(hf:f<2^52):(orU ((((if s then 2^63 else 0)+f:Nat)):Int) ((E*2^52:Nat):Int)).toNat=(if s then 2^63 else 0)+E*2^52+f:=by
 rw[bIv (by split<;>omega) (by omega),Int.toNat_natCast];have h1:((if s then 2^63 else 0)+f)=2^52*(if s then 2^11 else 0) |||f:=by
  rw[<-Nat.two_pow_add_eq_or_of_lt hf];cases s;· simp
  ·simp only[if_true]
 have h2:2^52*(if s then 2^11 else 0) |||E*2^52=2^52*((if s then 2^11 else 0)+E):=by
  have g1:(if s then 2^11 else 0)+E=(if s then 2^11 else 0) |||E:=by
   cases s;· simp
   ·simp only[if_true];have:=Nat.two_pow_add_eq_or_of_lt (i:=11) (b:=E) (by omega) 1;rwa[Nat.mul_one]at this
  rw[g1];generalize (if s then 2^11 else 0)=t;rw[Nat.mul_comm (2^52) t,Nat.mul_comm (2^52)];have:=@Nat.shiftLeft_or_distrib 52 t E;simp only[Nat.shiftLeft_eq]at this;exact this.symm
 rw[h1,Nat.or_assoc,Nat.or_comm f,<-Nat.or_assoc,h2,<-Nat.two_pow_add_eq_or_of_lt hf];cases s;· simp only[Bool.false_eq_true,if_false];omega
 ·simp only[if_true];omega
theorem aXe{y:Nat}(hy:y<2^64):∃w,Is w 0/\∀(R:Type)(k:KNO R),aIp R 0 y k=k w:=by
 have h0:rT 0 9223372036854775808=0:=by decide
 have h1:=aWu (a:=y) (b:=9223372036854775808) hy (by decide);rw[show((9223372036854775808:Nat):Int)=9223372036854775808 by rfl]at h1;have h2:y &&&9223372036854775808=(y.testBit 63).toNat*2^63:=by rw[show(9223372036854775808:Nat)=2^63 by decide,aB3]
 refine⟨(y.testBit 63).toNat*2^63,?_,λR k=>?_⟩
 ·cases y.testBit 63
  ·simp only[Bool.toNat_false,Nat.zero_mul];exact⟨by decide,false,0,-1074,by decide,yH _ _⟩
  ·simp only[Bool.toNat_true,Nat.one_mul];exact⟨by decide,true,0,-1074,by decide,yH _ _⟩
 ·unfold aIp;have h3:=bIv (a:=0) (b:=(y.testBit 63).toNat*2^63) (by decide) (by cases y.testBit 63<;>decide);show k (orU (rT ((0:Nat):Int) 9223372036854775808) (bQd y 9223372036854775808)).toNat=_;rw[h1,h2];rw[show(rT ((0:Nat):Int) 9223372036854775808)=((0:Nat):Int) from h0,h3,Int.toNat_natCast,Nat.zero_or]
theorem aW9{n:Int}(h1:-5000<=n)(h2:n<=5000):aQ8 n=n:=by unfold aQ8;split<;>split<;>omega
theorem uK{a:Nat}{x:Rat}{n:Int}(h:Is a x)(hn1:-5000<=n)(hn2:n<=5000)(hlt:(x*(2:Rat)^n).abs<(2:Rat)^(1023:Int)):
  ∃r z,Is r z/\Rnd (x*(2:Rat)^n) z/\∀(R:Type)(k:KNO R),wP R a n k=k r:=by
 have hdef:∀(R:Type)(k:KNO R),wP R a n k=pB R a n k:=λR k=>by show pB R a (aQ8 n) k=_;rw[aW9 hn1 hn2]
 by_cases hx:x=0
 ·subst hx;refine⟨a,0,h,⟨.inl ?_,λK q _ _ e=>?_⟩,λR k=>?_⟩
  ·rw[Rat.zero_mul,Rat.sub_self,fO];simp
  ·exact(Rat.zero_mul _).symm
  ·rw[hdef];unfold pB aSi;rw[aJ,qT h hJ];simp
 ·obtain⟨y,e,he,hy,hnn,hk⟩:=aJr h hx;have hyw:=hy.1;obtain⟨s,E,f,rfl,b1,b2,b3,hv⟩:=oW hy hnn;obtain⟨d1,d2⟩:=aA9 (s:=s) (E:=E) b3;have hx0:¬(x=((0:Int):Rat)):=by simpa using hx
  have hxe:x*(2:Rat)^n=dv s (2^52+f) ((E:Int)-1075)*(2:Rat)^(n+e):=by rw[<-hv,Rat.mul_assoc,<-bO];congr 2;omega
  have hdv:∀j:Int,dv s (2^52+f) ((E:Int)-1075)*(2:Rat)^j=dv s (2^52+f) ((E:Int)-1075+j):=λj=>by unfold dv;rw[bO];grind
  have hlo:(2:Rat)^(n+e+E-1023)<=(x*(2:Rat)^n).abs:=by rw[hxe,bD,sK];have:=cG d1 (bN (bG (n+e)));rw[<-bO,show(E:Int)-1023+(n+e)=n+e+E-1023 by omega]at this;exact this
  have hhi:(x*(2:Rat)^n).abs<(2:Rat)^(n+e+E-1022):=by rw[hxe,bD,sK];have:=Rat.mul_lt_mul_of_pos_right d2 (bG (n+e));rw[<-bO,show(E:Int)-1022+(n+e)=n+e+E-1022 by omega]at this;exact this
  have hex:n+e+E-1023<1023:=xL (by grind);have hgo:∀(R:Type)(k:KNO R),wP R a n k=zT aG aIp ((if s then 2^63 else 0)+E*2^52+f) e n k:=λR k=>by rw[hdef];unfold pB aSi;rw[aJ,qT h hJ];simp only[hx0,decide_false];rw[oU h,aJ];simp only;rw[lX h,aJ];simp only;rw[hk]
  have hexpo:K9.i64.wrap (bHc (K9.i64.wrap (bQr ((((if s then 2^63 else 0)+E*2^52+f:Nat)):Int) 52)) 2047-1023)=(E:Int)-1023:=by
   have h1:((if s then 2^63 else 0)+E*2^52+f)/2^52=(if s then 2048 else 0)+E:=by
    cases s;· simp only[Bool.false_eq_true,if_false];omega
    ·simp only[if_true];omega
   rw[bBa,h1,qI (n:=(((if s then 2048 else 0)+E:Nat):Int)) (by split<;>omega) (by split<;>omega)];have h2:=bJ8 (a:=(if s then 2048 else 0)+E) (b:=2047) (by split<;>omega) (by decide);have h3:((if s then 2048 else 0)+E) &&&2047=E:=by
    have:=Nat.and_two_pow_sub_one_eq_mod ((if s then 2048 else 0)+E) 11;rw[show 2^11-1=2047 by decide]at this;rw[this];cases s;· simp only[Bool.false_eq_true,if_false];omega
    ·simp only[if_true];omega
   rw[h3,show((2047:Nat):Int)=2047 by rfl]at h2;rw[h2,qI (by omega) (by omega)]
  have htail:∀(R:Type)(k:KNO R),zT aG aIp ((if s then 2^63 else 0)+E*2^52+f) e n k =
    if n+e+E-1023 < -1075 then aIp R 0 ((if s then 2^63 else 0)+E*2^52+f) k
    else if n+e+E-1023 < -1022 then xF aG ((if s then 2^63 else 0)+E*2^52+f) (n+e+E-970) 4368491638549381120 k
    else xF aG ((if s then 2^63 else 0)+E*2^52+f) (n+e+E-1023) 4607182418800017408 k:=λR k=>by
   unfold zT;simp only[aI R];rw[hexpo,qI (n:=n+e) (by omega) (by omega),qI (n:=n+e+((E:Int)-1023)) (by omega) (by omega)];rw[show n+e+((E:Int)-1023)=n+e+E-1023 by omega];simp only[aJ];by_cases c1:n+e+E-1023 < -1075;· simp[c1]
   ·have c2:¬(n+e+E-1023>1023):=by omega
    by_cases c3:n+e+E-1023 < -1022;· simp only[c1,c2,c3,decide_false,decide_true,if_false,if_true];rw[qI (by omega) (by omega),show n+e+(E:Int)-1023+53=n+e+E-970 by omega]
    ·simp only[c1,c2,c3,decide_false,if_false]
  have hend:∀(ex:Int)(m:Nat)(R:Type)(k:KNO R),-1022<=ex->ex<=1023->xF aG ((if s then 2^63 else 0)+E*2^52+f) ex m k =
    aM (fbF .mul m ((if s then 2^63 else 0)+(ex+1023).toNat*2^52+f)) k:=λex m R k g1 g2=>by
   unfold xF;simp only[aI R];rw[qI (by omega) (by omega),bCp (by omega) (by omega),aT3 b2 b3];obtain⟨t,ht⟩:=Int.eq_ofNat_of_zero_le (show 0<=ex+1023 by omega);rw[ht,bNz (by omega),bIf (by omega) b3,Int.toNat_natCast]
  by_cases c1:n+e+E-1023 < -1075
  ·obtain⟨w,g1,g2⟩:=aXe hyw;have hsm:(x*(2:Rat)^n).abs<(2:Rat)^(-1075:Int):=by have:=cY (show n+e+E-1022<=-1075 by omega);grind
   refine⟨w,0,g1,⟨.inr ?_,λK q k1 k2 k3=>?_⟩,λR k=>by rw[hgo,htail,if_pos c1,g2]⟩;· rw[show(0:Rat)-x*(2:Rat)^n=-(x*(2:Rat)^n) by grind,abs_neg];grind
   ·rw[k3,bD,wE,sK]at hsm;have hK:K.natAbs=0:=by
     rcases Nat.eq_zero_or_pos K.natAbs with h0|h0;· exact h0
     ·exfalso;have f1:((1:Nat):Rat)<=((K.natAbs:Nat):Rat):=kF h0;have f2:=cG f1 (bN (bG q));have f3:=cY (show(-1075:Int)<=q by omega);grind
    have:K=0:=by omega
    rw[k3,this];simp
  ·by_cases c3:n+e+E-1023 < -1022
   ·have hw:=oQ (s:=s) (E:=(n+e+E-970+1023).toNat) (f:=f) (by omega) (by omega) b3;have hval:(2:Rat)^(-53:Int)*dv s (2^52+f) ((((n+e+E-970+1023).toNat:Nat):Int)-1075)=x*(2:Rat)^n:=by rw[hxe,hdv,Rat.mul_comm];unfold dv;rw[Rat.mul_assoc,Rat.mul_assoc,<-bO];congr 3;omega
    obtain⟨r,z,m1,m2,m3⟩:=kH bS6 hw (by rw[hval];exact hlt);rw[hval]at m3;exact⟨r,z,m2,m3,λR k=>by rw[hgo,htail,if_neg c1,if_pos c3,hend _ _ R k (by omega) (by omega),aK m1]⟩
   ·have hw:=oQ (s:=s) (E:=(n+e+E-1023+1023).toNat) (f:=f) (by omega) (by omega) b3;have hval:1*dv s (2^52+f) ((((n+e+E-1023+1023).toNat:Nat):Int)-1075)=x*(2:Rat)^n:=by rw[hxe,hdv,Rat.one_mul];congr 1;omega
    obtain⟨r,z,m1,m2,m3⟩:=kH aMd hw (by rw[hval];exact hlt);rw[hval]at m3;exact⟨r,z,m2,m3,λR k=>by rw[hgo,htail,if_neg c1,if_neg c3,hend _ _ R k (by omega) (by omega),aK m1]⟩
theorem bBp{x m:Rat}(h:x.abs<=m):x*x<=m*m:=by obtain⟨h1,h2⟩:=aA.1 h;have:=bU (show 0<=m-x by grind) (show 0<=m+x by grind);grind
theorem aT(x:Rat):0<=x*x:=by
 rcases(Rat.le_total:0<=x\/x<=0) with h|h;· exact bU h h
 ·have:=bU (show 0<=-x by grind) (show 0<=-x by grind);grind
theorem bVq{x m:Rat}(h:m<=x.abs)(hm:0<=m):m*m<=x*x:=by
 rcases(Rat.le_total:0<=x\/x<=0) with g|g;· rw[fZ g]at h;have h1:=dI h hm;have h2:=cG h g;grind
 ·rw[Rat.abs_of_nonpos g]at h;have h1:=dI h hm;have h2:=cG h (show 0<=-x by grind);grind
theorem aXp:(2:Rat)^(-53:Int)<=1/1000:=by
 have h7:(2:Rat)^(-10:Int)*(2:Rat)^(10:Int)=1:=by rw[<-bO,show(-10+10:Int)=0 by decide,Rat.zpow_zero]
 have h8:(2:Rat)^(10:Int)=1024:=by rw[show(10:Int)=((10:Nat):Int) by rfl,cN];rfl
 rw[h8]at h7;grind
theorem Rnd.coarse{x z:Rat}(h:Rnd x z):(z-x).abs<=x.abs*(1/1000)+(2:Rat)^(-1075:Int):=by have h1:=dI aXp (aH x);have h2:=bG (-1075);rcases h.near with g|g<;>grind
theorem aDf{q:Int}(h:q<=-53):(2:Rat)^q<=1/1000:=cR (cY h) aXp
theorem kA{x:Rat}(h:x.abs<=1000):x.abs<(2:Rat)^(1023:Int):=by
 have h6:=cY (show(10:Int)<=1023 by decide);have h8:(2:Rat)^(10:Int)=1024:=by rw[show(10:Int)=((10:Nat):Int) by rfl,cN];rfl
 grind
theorem aCb{a b:Nat}{x y:Rat}(ha:Is a x)(hb:Is b y):∃(g:Nat)(G:Rat),Is g G/\x.abs<=G/\y.abs<=G/\(G=x.abs\/G=y.abs)/\∀(R:Type)(k:KNO R),sA R a b k=k g:=by
 have hdef:∀(R:Type)(k:KNO R),sA R a b k=aW (gtF (wV b) (wV a)) λt=>match t with
   |true=>k (wV b)
   |false=>k (wV a):=λR k=>rfl
 by_cases h:x.abs<y.abs;· refine⟨_,y.abs,kW hb,by grind,by grind,.inr rfl,λR k=>?_⟩;rw[hdef,aJ,aR1 (kW hb) (kW ha)];simp only[h,decide_true]
 ·refine⟨_,x.abs,kW ha,by grind,by grind,.inl rfl,λR k=>?_⟩;rw[hdef,aJ,aR1 (kW hb) (kW ha)];simp only[h,decide_false]
end Go.Vm
