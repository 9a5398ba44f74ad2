/- A part; no conditions. -/
import Derived.Test.YtaogignikkjkjaaGreatVmP7
set_option maxRecDepth 1000000
set_option maxHeartbeats 1000000
set_option linter.all false
open Go.Proofs.Tryz renaming prog->P9
open Nat renaming beq->N9
open Bool renaming and_eq_true->B9
open Go renaming Value->V9,IntKind->K9,floatOfInt->U9,floatToIntVal->J9
namespace Go.Vm
open Go.Proofs
structure El where
 kind:Int
 a1:Nat
 a2:Nat
 s1:Nat
 s2:Nat
 p:Nat
def El.cs(x:El):List V9:=[.int .u8 x.kind,.complex .f64 x.a1 x.a2,.complex .f64 x.s1 x.s2,.float .f64 x.p]
def uP(cs:List V9)(o:Nat)(xs:List El):Prop:=∀i x,xs[i]?=some x->∃rest,cs.drop (o+i*4)=x.cs++rest
theorem uH{cs:List V9}{o:Nat}{xs:List El}(h:uP cs o xs){i:Nat}{x:El}(hx:xs[i]?=some x)(R:Type)(k:Int->Nat->Nat->Nat->Nat->Nat->Option R):rEl R cs (o+i*4) k=k x.kind x.a1 x.a2 x.s1 x.s2 x.p:=by obtain⟨rest,e⟩:=h i x hx;unfold rEl;rw[e];rfl
def cW(o n c:Nat):V9:=.agg ⟨[.slice (some ⟨0,o,none⟩) n c]⟩
noncomputable def aD3:Code:=sI (bB 34) 0
def ckE(o n c:Nat)(k:Int):Env:=[(13,.int .i64 k),(12,.int .i64 n),(11,.slice (some ⟨0,o,none⟩) n c)]
def ckX(o n c:Nat)(k e:Int):Env:=[(13,.int .i64 k),(12,.int .i64 n),(11,.slice (some ⟨0,o,none⟩) n c),(2,.int .i64 e)]
noncomputable def ckC(fi:Fi)(ge:GEl)(st:St)(ap:Ap)(chk:KEI):Cx:=cxM fi P9 (λ_ _=>none) [(84,sEI chk)] [] [] [] (aPh (λb=>Nat.blt b 1) [(39,gEl ge)] st ap)
theorem aIm(fi:Fi)(R:Type)(ge:GEl)(st:St)(ap:Ap)(chk:KEI)(cs:List V9)(sz o n c k:Nat)(K:Ex->Env->dF->Option R):
  bE (ckC fi ge st ap chk) 60 noL 1 23 aD3 (ckE o n c k) ⟨2,[(0,.cells cs sz)]⟩ (aU [13,12,11,2] [] K) =
  bif decide ((k:Int)<n) then
   bif decide (0<=(k:Int))&&decide ((k:Int)<n)&&true then
    ge R cs (o+k*4) λkind a1 a2 s1 s2 p=>chk R kind a1 a2 s1 s2 p λe=>
     bif e != 0 then K .ret (ckX o n c k e) [] else fi R (K9.i64.wrap (k+1)) λm=>K .normal (ckE o n c m) []
   else none
  else K (.exit 0) (ckE o n c k) []:=by kernel_rfl
theorem bHl(fi:Fi)(L:qR)(R:Type)(ge:GEl)(st:St)(ap:Ap)(chk:KEI)(cs:List V9)(sz o n c:Nat)(K:Ex->Env->dF->Option R):
  bE (ckC fi ge st ap chk) 60 (eS [13,12,11] [0] L) 1 23 (bB 34) (gX 0 [cW o n c]) ⟨1,[(0,.cells cs sz)]⟩ (aU [2] [] K) =
  bif decide ((n:Int)>256) then K .ret [(2,.int .i64 7)] []
  else L R 1 23 aD3 (ckE o n c 0) ⟨2,[(0,.cells cs sz)]⟩ (fS 0 (jP (λe H=>bE (ckC fi ge st ap chk) 60 (eS [13,12,11] [0] L) 1 23 (lJ 3 (bB 34)) e H (aU [2] [] K)) (aU [2] [] K))):=by kernel_rfl
theorem bRp(fi:Fi)(L:qR)(R:Type)(ge:GEl)(st:St)(ap:Ap)(chk:KEI)(cs:List V9)(sz o n c:Nat)(k:Int)(K:Ex->Env->dF->Option R):
  bE (ckC fi ge st ap chk) 60 (eS [13,12,11] [0] L) 1 23 (lJ 3 (bB 34)) (ckE o n c k) ⟨2,[(0,.cells cs sz)]⟩ (aU [2] [] K)=K .ret [(2,.int .i64 0)] []:=by kernel_rfl
theorem aIl:fP aD3=[]:=by kernel_rfl
theorem aN7:Tryz.f34.body=some (bB 34):=by kernel_rfl
theorem bXy:aNv P9 [(39,gEl rEl)]:=.cons (bMl bT0) .nil
theorem jR{P:Program}:∀t s f,(λ(_:TypeId)(_:String)=>(none:Option FuncId)) t s=some f->∀v w,(method (P.types.size+Made.depth) t v s).run P w=.ok (f,v) w:=λt s f h=>by cases h
theorem lY{P:Program}:∀f g,tab ([]:List (Nat×Sum)) f=some g->xS P f g:=λf g h=>by cases h
theorem fN{k:Nat}(h:k<1000000):K9.i64.wrap ((k:Int)+1)=((k+1:Nat):Int):=by rw[qI (by omega) (by omega)];omega
def rY:List Int->Int
 |[]=>0
 |e::r=>if e=0 then rY r else e
def aEb(er:El->Int)(xs:List El):Int:=if 256<xs.length then 7 else rY (xs.map er)
theorem jN(k:Nat):(decide (0<=(k:Int))&&true&&true)=true:=by rw[D7 (show(0:Int)<=(k:Int) by omega)];rfl
def jK:KCC:=λR a b k=>bH (Op.negFloat .f64 b) λy=>k a y
def jV:KCC:=λR a b k=>bH (Op.negFloat .f64 b) λx=>k x a
def aQt(fi:Fi):KIF:=λR n k=>fi R (n.tmod 1001) λm=>bH (U9 .f64 m) k
def jC:KIF:=aQt aG
abbrev bJw:=∀R:Type,Nat->Nat->Nat->(Bool->Option R)->Option R
def cGf(g:bJw):Sum:=λR args k=>match args with
 |[.agg ⟨[.complex .f64 a b,.float .f64 c]⟩]=>g R a b c λt=>k (.bool t)
 |_=>none
def bNw(g:bJw):Sum:=λR args k=>match args with
 |[.float .f64 a,.float .f64 b,.float .f64 c]=>g R a b c λt=>k (.bool t)
 |_=>none
def aSt(ab:KFF):bJw:=λR a b m k=>aM (fbF .sub a b) λd=>ab R d λe=>aW (leF e m) λt=>k t
def cAd(n2:yY)(n1:KF1):KFF:=λR x k=>n2 R x 0 0<|n1 R x<|n1 R 4652007308841189376<|aW (ltF x 0) λt=>match t with
 |true=>bH (Op.negFloat .f64 x) λr=>aW (geF r 4652007308841189376) λt=>match t with
  |true=>bif N9 r 4652007308841189376 then none else none
  |false=>aW (ltF x 0) λt=>match t with|true=>bH (Op.negFloat .f64 r) λr=>k r|false=>k r
 |false=>aW (geF x 4652007308841189376) λt=>match t with
  |true=>bif N9 x 4652007308841189376 then none else none
  |false=>aW (ltF x 0) λt=>match t with|true=>bH (Op.negFloat .f64 x) λr=>k r|false=>k x
def n2K:yY:=λR a _ _ X=>xX R a λt=>match t with|false=>X|true=>none
def n1K:KF1:=λR a X=>xY R a λt=>match t with|false=>X|true=>none
def cAe:KFF:=λR x k=>bif N9 x 4652007308841189376 then k 0 else cAd n2K n1K R x k
def cG8{R:Type}(X:Option R):Bool->Option R:=λt=>match t with|true=>X|false=>none
def nrT(ab:KFF):yY:=λR a b r X=>aSt ab R a b r (cG8 X)
theorem cEx(R:Type)(cs:List V9)(n c:Nat)(cx:List V9)(off m:Nat)(k:List V9->Option R):rAp P9 R 27 cs n c cx off m k =
  bif true&&true&&N9 c n&&Nat.blt 0 m&&Nat.ble ((n+m)*48) 140737488355328&&Nat.ble (n+m) 1099511627776&&N9 cs.length (n*4)&&N9 ((cx.drop off).take (m*4)).length (m*4)&&mK ((cx.drop off).take (m*4)) then
   k (cs++(cx.drop off).take (m*4)) else none:=by kernel_rfl
theorem qK{R:Type}{cs cx:List V9}{n off m:Nat}{k:List V9->Option R}(h1:cs.length=n*4)(h2:((cx.drop off).take (m*4)).length=m*4)(h3:mK ((cx.drop off).take (m*4))=true)(hm:0<m)(hn:n+m<1000000):
  rAp P9 R 27 cs n n cx off m k=k (cs++(cx.drop off).take (m*4)):=by
 rw[cEx,h1,h2,h3,vZ hm,iJ (show(n+m)*48<=140737488355328 by omega),iJ (show n+m<=1099511627776 by omega),Nat.beq_refl,Nat.beq_refl,Nat.beq_refl];rfl
theorem tC{n:Nat}:∀{a b:List V9},kZ n a=true->kZ n b=true->kZ n (a++b)=true
 |[],b,_,h=>h
 |v::r,b,ha,hb=>by simp only[kZ,B9]at ha;simp only[List.cons_append,kZ,ha.1,tC ha.2 hb,Bool.and_self]
theorem aGy:∀{a b:List V9},mK a=true->mK b=true->mK (a++b)=true
 |[],b,_,h=>h
 |v::r,b,ha,hb=>by simp only[mK,B9]at ha;simp only[List.cons_append,mK,ha.1,aGy ha.2 hb,Bool.and_self]
def Row(m:Nat)(os:List V9):Prop:=os.length=m*4/\kZ 0 os=true/\mK os=true
theorem Row.app{m j:Nat}{os ns:List V9}(h:Row m os)(g:Row j ns):Row (m+j) (os++ns):=by refine⟨?_,tC h.2.1 g.2.1,aGy h.2.2 g.2.2⟩;rw[List.length_append,h.1,g.1,Nat.add_mul]
theorem El.row(x:El):Row 1 x.cs:=⟨rfl,rfl,rfl⟩
def cellsOf(xs:List El):List V9:=xs.flatMap El.cs
theorem aLj(a b:List El):cellsOf (a++b)=cellsOf a++cellsOf b:=by unfold cellsOf;rw[List.flatMap_append]
theorem cL:∀(xs:List El),Row xs.length (cellsOf xs)
 |[]=>⟨rfl,rfl,rfl⟩
 |x::r=>by have:=(El.row x).app (cL r);rw[Nat.add_comm]at this;exact this
theorem aLw:∀(xs:List El)(i:Nat)(x:El),xs[i]?=some x->∃rest,(cellsOf xs).drop (i*4)=x.cs++rest
 |[],i,x,h=>by simp at h
 |y::r,0,x,h=>by simp only[List.getElem?_cons_zero,Option.some.injEq]at h;subst h;exact⟨cellsOf r,rfl⟩
 |y::r,i+1,x,h=>by simp only[List.getElem?_cons_succ]at h;obtain⟨rest,e⟩:=aLw r i x h;refine⟨rest,?_⟩;show(y.cs++cellsOf r).drop ((i+1)*4)=_;rw[show(i+1)*4=y.cs.length+i*4 by show _=4+i*4;omega,List.drop_append,List.drop_eq_nil_of_le (by omega),List.nil_append,Nat.add_sub_cancel_left];exact e
theorem nN(xs:List El):uP (cellsOf xs) 0 xs:=λi x h=>by rw[Nat.zero_add];exact aLw xs i x h
abbrev GS:=∀R:Type,List V9->Nat->(Nat->Nat->Nat->Nat->Option R)->Option R
abbrev KAb:=∀R:Type,Nat->Nat->Nat->Nat->Nat->Nat->Nat->Nat->Nat->Option R->Option R
structure Th where
 kind:Int
 x:Int
 y:Int
 s:Int
 t:Int
 p:Int
def fI(n:Int):Nat:=U9 .f64 n
def Th.el(h:Th):El:=⟨h.kind,fI h.x,fI h.y,fI h.s,fI h.t,fI h.p⟩
def smI(x y:Int):Bool:=decide (-1000<=x)&&decide (x<=1000)&&decide (-1000<=y)&&decide (y<=1000)
def Th.small(h:Th):Bool:=smI h.x h.y&&smI h.s h.t
abbrev cHc:=∀R:Type,Int->Int->(Bool->Option R)->Option R
abbrev cHd:=∀R:Type,Int->Int->(Nat->Nat->Option R)->Option R
def bL:V9:=.slice none 0 0
def sl3(b j:Nat):V9:=.slice (some ⟨b,0,none⟩) j j
def oa0(b:Nat):Bool:=N9 b 0
def oa3(b:Nat):Bool:=N9 b 0||N9 b 3
section
variable{cs:List V9}{sz c n:Nat}{xs:List Th}
theorem El.cs_eq(x:El):([.int .u8 x.kind,.complex .f64 x.a1 x.a2,.complex .f64 x.s1 x.s2,.float .f64 x.p]:List V9)=x.cs:=rfl
end
def la0(b:Nat):Bool:=N9 b 0
theorem cC0:Has P9 34:=⟨Tryz.f34,_,Tryz.func34,by kernel_rfl,rfl⟩
def els(xs:List Th):List El:=xs.map Th.el
def ofV(v:V9)(b:Bool):V9:=.tuple ⟨[.agg ⟨[v]⟩,.bool b]⟩
theorem aIy{α:Type}{P:α->Bool}:∀{xs:List α},xs.any P=true->∃(j:Nat)(x:α),xs[j]?=some x/\P x=true/\∀(i:Nat)(g:α),i<j->xs[i]?=some g->P g=false
 |[],h=>by cases h
 |x::r,h=>by
  cases hx:P x with
  |true=>exact⟨0,x,rfl,hx,λi g hi=>by omega⟩
  |false=>
   rw[List.any_cons,hx,Bool.false_or]at h;obtain⟨j,g,h1,h2,h3⟩:=aIy h;refine⟨j+1,g,by simpa using h1,h2,λi u hi hu=>?_⟩;cases i with
   |zero=>simp only[List.getElem?_cons_zero,Option.some.injEq]at hu;subst hu;exact hx
   |succ i=>exact h3 i u (by omega) (by simpa using hu)
theorem bM7{α:Type}{P:α->Bool}{xs:List α}(h:xs.any P=false):∀(i:Nat)(g:α),xs[i]?=some g->P g=false:=λi g hg=>by have:=List.any_eq_false.1 h g (List.mem_of_getElem? hg);simpa using this
abbrev bQb:=∀R:Type,Nat->Nat->Nat->Nat->(Nat->Option R)->Option R
def bX6(g:bQb):Sum:=λR args k=>match args with
 |[.agg ⟨[.int .u8 kind,.complex .f64 a1 a2,.complex .f64 s1 s2,.float .f64 p]⟩,.agg ⟨[.complex .f64 c1 c2,.float .f64 r]⟩]=>g R a1 a2 c1 c2 λl=>k (.float .f64 l)
 |_=>none
def aGb(sub:gU)(len:KCF):bQb:=λR a1 a2 c1 c2 k=>sub R a1 a2 c1 c2 λd1 d2=>len R d1 d2 k
theorem cCa(sub:gU)(len:KCF)(R:Type)(kind:Int)(a1 a2 s1 s2 p c1 c2 r:Nat)(k:KVO R):
  fC (cx P9 [(35,jH sub),(29,sCF len)]) 60 86 [.agg ⟨[.int .u8 kind,.complex .f64 a1 a2,.complex .f64 s1 s2,.float .f64 p]⟩,.agg ⟨[.complex .f64 c1 c2,.float .f64 r]⟩] k=aGb sub len R a1 a2 c1 c2 λl=>k (.float .f64 l):=by kernel_rfl
theorem cDe:Has P9 86:=⟨Tryz.f86,_,Tryz.func86,by kernel_rfl,rfl⟩
theorem cFj:Has P9 85:=⟨Tryz.f85,_,Tryz.func85,by kernel_rfl,rfl⟩
theorem cC8:Has P9 38:=⟨Tryz.f38,_,Tryz.func38,by kernel_rfl,rfl⟩
theorem cD6:cH P9 86 (bX6 (aGb gJ cQ)):=dL aO (.cons k21 h21 (.cons k38 h38 .nil)) (n:=60) λR args k r hr=>by
 unfold bX6 at hr;split at hr;· exact⟨rfl,(cCa gJ cQ R _ _ _ _ _ _ _ _ _ k).trans hr⟩
 ·cases hr
noncomputable def clA:Code:=sI (bB 38) 0
noncomputable def clB:Code:=sI (bB 38) 1
noncomputable def clC(fi:Fi)(ge:GEl)(st:St)(ap:Ap)(out:bQb)(gl:List (Nat×vP)):Cx:=
 cxM fi P9 (λ_ _=>none) [(86,bX6 out)] [] gl [] (aPh la0 [(39,gEl ge)] st ap)
def ciV(c1 c2 r:Nat):V9:=.agg ⟨[.complex .f64 c1 c2,.float .f64 r]⟩
def clE(o n c t:Nat)(b:Bool)(k:Int):Env:=[(26,.int .i64 k),(25,.int .i64 n),(24,.slice (some ⟨0,o,none⟩) n c),(4,.pointer (some ⟨2,0,none⟩)),(8,.float .f64 t),(3,.pointer (some ⟨1,0,none⟩)),(2,.bool b)]
def clF(o n c:Nat)(b:Bool)(k:Int):Env:=[(56,.int .i64 k),(55,.int .i64 n),(54,.slice (some ⟨0,o,none⟩) n c),(2,.bool b)]
def clD(o n c c1 c2 r:Nat):dF:=[(2,.cells [.complex .f64 c1 c2,.float .f64 r] 0),(1,.cells [.slice (some ⟨0,o,none⟩) n c] 0)]
section
variable(L1 L2:qR)(fi:Fi)(R:Type)(ge:GEl)(st:St)(ap:Ap)(out:bQb)(ga:HT)(gl:List (Nat×vP))(cs:List V9)(sz o n c k c1 c2 r t:Nat)(b:Bool)(K:Ex->Env->dF->Option R)
theorem aD5:bE (clC fi ge st ap out []) 60 noL 1 76 clA (clE o n c t b k) ⟨3,clD o n c c1 c2 r++[(0,.cells cs sz)]⟩ (aU [26,25,24,4,8,3,2,6] [2,1] K) =
  bif decide ((k:Int)<n) then
   bif decide (0<=(k:Int))&&decide ((k:Int)<n)&&true then
    ge R cs (o+k*4) λkind a1 a2 s1 s2 p=>out R a1 a2 c1 c2 λl=>
     bif kind != 1 then
      aM (fbF .add r t) λrp=>bif leF l rp then
       aM (fbF .sub r t) λrm=>bif geF l rm then K .ret (clE o n c t b k++[(6,.int .i64 210)]) (clD o n c c1 c2 r)
       else fi R (K9.i64.wrap (k+1)) λi=>K .normal (clE o n c t b i) (clD o n c c1 c2 r)
      else fi R (K9.i64.wrap (k+1)) λi=>K .normal (clE o n c t b i) (clD o n c c1 c2 r)
     else fi R (K9.i64.wrap (k+1)) λi=>K .normal (clE o n c t b i) (clD o n c c1 c2 r)
   else none
  else K (.exit 0) (clE o n c t b k) (clD o n c c1 c2 r):=by kernel_rfl
theorem aG8:bE (clC fi ge st ap out []) 60 noL 1 76 clB (clF o n c true k) ⟨3,[(0,.cells cs sz)]⟩ (aU [56,55,54,2,6] [] K) =
  bif decide ((k:Int)<n) then
   bif decide (0<=(k:Int))&&decide ((k:Int)<n)&&true then
    ge R cs (o+k*4) λkind a1 a2 s1 s2 p=>
     bif kind==4 then(J9 .f64 p .i64).bind λm=>fi R m λm=>bH (U9 .f64 m) λq=>bif neF p q then K .ret (clF o n c true k++[(6,.int .i64 210)]) []
      else fi R (K9.i64.wrap (k+1)) λi=>K .normal (clF o n c true i) []
     else fi R (K9.i64.wrap (k+1)) λi=>K .normal (clF o n c true i) []
   else none
  else K (.exit 2) (clF o n c true k) []:=by kernel_rfl
theorem aG7:bE (clC fi ge st ap out []) 60 noL 1 76 clB (clF o n c false k) ⟨3,[(0,.cells cs sz)]⟩ (aU [56,55,54,2,6] [] K) =
  bif decide ((k:Int)<n) then
   bif decide (0<=(k:Int))&&decide ((k:Int)<n)&&true then
    ge R cs (o+k*4) λkind a1 a2 s1 s2 p=>fi R (K9.i64.wrap (k+1)) λi=>K .normal (clF o n c false i) []
   else none
  else K (.exit 2) (clF o n c false k) []:=by kernel_rfl
abbrev clL:qR:=orL 56 (eS [56,55,54,2] [0] L2) (eS [26,25,24,4,8,3,2] [2,1,0] L1)
theorem bHm:bE (clC fi ge st ap out [(85,bF (.int .i64 0) ga)]) 60 (clL L1 L2) 1 76 (bB 38) (gX 0 [cW o n c,ciV c1 c2 r,.bool b]) ⟨1,[(0,.cells cs sz)]⟩ (aU [6] [] K) =
  ga R [cW o n c,ciV c1 c2 r] ⟨3,clD o n c c1 c2 r++[(0,.cells cs sz)]⟩ (aM (fbF .mul r 4517110426252607488) λt=>L1 R 1 76 clA (clE o n c t b 0) ⟨3,clD o n c c1 c2 r++[(0,.cells cs sz)]⟩
   (fS 0 (jP (λen H=>bE (clC fi ge st ap out [(85,bF (.int .i64 0) ga)]) 60 (clL L1 L2) 1 76 (lJ 4 (bB 38)) en H (aU [6] [] K)) (aU [6] [] K)))):=by kernel_rfl
theorem bRr:bE (clC fi ge st ap out gl) 60 (clL L1 L2) 1 76 (lJ 4 (bB 38)) (clE o n c t b k) ⟨3,clD o n c c1 c2 r++[(0,.cells cs sz)]⟩ (aU [6] [] K) =
  L2 R 1 76 clB (clF o n c b 0) ⟨3,[(0,.cells cs sz)]⟩ (fS 2 (jP (λen H=>bE (clC fi ge st ap out gl) 60 (clL L1 L2) 1 76 (lJ 5 (bB 38)) en H (aU [6] [] K)) (aU [6] [] K))):=by kernel_rfl
theorem bRq:bE (clC fi ge st ap out gl) 60 (clL L1 L2) 1 76 (lJ 5 (bB 38)) (clF o n c b k) ⟨3,[(0,.cells cs sz)]⟩ (aU [6] [] K)=K .ret [(6,.int .i64 0)] []:=by kernel_rfl
end
structure jO(c1 c2 r:Nat) where
 t:Nat
 rp:Nat
 rm:Nat
 lw:El->Nat
 ht:fbF .mul r 4517110426252607488=some t
 hp:fbF .add r t=some rp
 hm:fbF .sub r t=some rm
def aC2(c1 c2:Nat)(lw:El->Nat)(x:El):Prop:=∀(R:Type)(k:KNO R),aGb gJ cQ R x.a1 x.a2 c1 c2 k=k (lw x)
def oC{c1 c2 r:Nat}(S:jO c1 c2 r)(x:El):Bool:=x.kind != 1&&leF (S.lw x) S.rp&&geF (S.lw x) S.rm
def aWn(x:El):Prop:=x.kind=4->∃m,J9 .f64 x.p .i64=some m/\neF x.p (U9 .f64 m)=false
noncomputable def clR(gl:List (Nat×vP)):Cx:=clC aG rEl rSt (rAp P9) (aGb gJ cQ) gl
theorem zH{gl:List (Nat×vP)}(hg:aWj P9 gl):(clR gl).Ok:=lS jR (.cons cD6 cDe .nil) lY hg .nil (jX bXy)
theorem aD4:fP clA=[]:=by kernel_rfl
theorem zG:fP clB=[]:=by kernel_rfl
theorem aW8:Tryz.f38.body=some (bB 38):=by kernel_rfl
theorem pW{R:Type}{o:Option Nat}{x:Nat}(h:o=some x)(k:KNO R):aM o k=k x:=by subst h;show bH x k=k x;rw[cB]
section
variable{cs:List V9}{sz o n c c1 c2 r:Nat}{b:Bool}{xs:List El}(S:jO c1 c2 r)
theorem aQ7(hx:uP cs o xs)(hn:xs.length<900000){k:Nat}{x:El}(hk:xs[k]?=some x)(hs:aC2 c1 c2 S.lw x)(he:oC S x=false):
  cI P9 1 76 ⟨3,clD o xs.length c c1 c2 r++[(0,.cells cs sz)]⟩ (clE o xs.length c S.t b k) ⟨3,clD o xs.length c c1 c2 r++[(0,.cells cs sz)]⟩ .normal (clE o xs.length c S.t b (k+1:Nat)) ⟨3,clD o xs.length c c1 c2 r++[(0,.cells cs sz)]⟩ (λQ a w=>clA.wp P9 Q a w):=by
 have hkn:=(List.getElem?_eq_some_iff.1 hk).1;exact bK (C:=clR []) (H0:=⟨3,clD o xs.length c c1 c2 r++[(0,.cells cs sz)]⟩) (e:=clE o xs.length c S.t b k) (H:=⟨3,clD o xs.length c c1 c2 r++[(0,.cells cs sz)]⟩) (n:=60) (ts:=[26,25,24,4,8,3,2,6]) (bo:=[2,1]) (bs:=[])
  (A:=clD o xs.length c c1 c2 r) (B:=[(0,.cells cs sz)]) (D:=clD o xs.length c c1 c2 r) (zH .nil) aO aD4
  (by
   unfold clR;refine(aD5 aG _ _ _ _ _ cs sz o xs.length c k c1 c2 r S.t b _).trans ?_;rw[D7 (show(k:Int)<xs.length by omega),T7,jN,T7,uH hx hk,hs];unfold oC at he;rw[pW S.hp];cases h1:x.kind != 1 with
   |false=>rw[F7,aI,fN (by omega)]
   |true=>
    rw[h1,Bool.true_and]at he;rw[T7];cases h2:leF (S.lw x) S.rp with
    |false=>rw[F7,aI,fN (by omega)]
    |true=>rw[h2,Bool.true_and]at he;rw[T7,pW S.hm,he,F7,aI,fN (by omega)]) rfl
  rfl rfl rfl rfl rfl rfl
theorem bKp(hx:uP cs o xs)(hn:xs.length<900000){k:Nat}{x:El}(hk:xs[k]?=some x)(hs:aC2 c1 c2 S.lw x)(he:oC S x=true):
  cI P9 1 76 ⟨3,clD o xs.length c c1 c2 r++[(0,.cells cs sz)]⟩ (clE o xs.length c S.t b k) ⟨3,clD o xs.length c c1 c2 r++[(0,.cells cs sz)]⟩ .ret (clE o xs.length c S.t b k++[(6,.int .i64 210)]) ⟨3,clD o xs.length c c1 c2 r++[(0,.cells cs sz)]⟩ (λQ a w=>clA.wp P9 Q a w):=by
 have hkn:=(List.getElem?_eq_some_iff.1 hk).1;exact bK (C:=clR []) (H0:=⟨3,clD o xs.length c c1 c2 r++[(0,.cells cs sz)]⟩) (e:=clE o xs.length c S.t b k) (H:=⟨3,clD o xs.length c c1 c2 r++[(0,.cells cs sz)]⟩) (n:=60) (ts:=[26,25,24,4,8,3,2,6]) (bo:=[2,1]) (bs:=[])
  (A:=clD o xs.length c c1 c2 r) (B:=[(0,.cells cs sz)]) (D:=clD o xs.length c c1 c2 r) (zH .nil) aO aD4
  (by unfold clR;refine(aD5 aG _ _ _ _ _ cs sz o xs.length c k c1 c2 r S.t b _).trans ?_;rw[D7 (show(k:Int)<xs.length by omega),T7,jN,T7,uH hx hk,hs];unfold oC at he;simp only[B9]at he;rw[pW S.hp,he.1.1,T7,he.1.2,T7,pW S.hm,he.2,T7]) rfl
  rfl rfl rfl rfl rfl rfl
theorem bDg:
  cI P9 1 76 ⟨3,clD o n c c1 c2 r++[(0,.cells cs sz)]⟩ (clE o n c S.t b n) ⟨3,clD o n c c1 c2 r++[(0,.cells cs sz)]⟩ (.exit 0) (clE o n c S.t b n) ⟨3,clD o n c c1 c2 r++[(0,.cells cs sz)]⟩ (λQ a w=>clA.wp P9 Q a w):=by
 exact bK (C:=clR []) (H0:=⟨3,clD o n c c1 c2 r++[(0,.cells cs sz)]⟩) (e:=clE o n c S.t b n) (H:=⟨3,clD o n c c1 c2 r++[(0,.cells cs sz)]⟩) (n:=60) (ts:=[26,25,24,4,8,3,2,6]) (bo:=[2,1]) (bs:=[])
  (A:=clD o n c c1 c2 r) (B:=[(0,.cells cs sz)]) (D:=clD o n c c1 c2 r) (zH .nil) aO aD4
  (by unfold clR;refine(aD5 aG _ _ _ _ _ cs sz o n c n c1 c2 r S.t b _).trans ?_;rw[E7 (by omega)];rfl) rfl
  rfl rfl rfl rfl rfl rfl
theorem bDi(hx:uP cs o xs)(hn:xs.length<900000){k:Nat}{x:El}(hk:xs[k]?=some x)(hw:aWn x):
  cI P9 1 76 ⟨3,[(0,.cells cs sz)]⟩ (clF o xs.length c b k) ⟨3,[(0,.cells cs sz)]⟩ .normal (clF o xs.length c b (k+1:Nat)) ⟨3,[(0,.cells cs sz)]⟩ (λQ a w=>clB.wp P9 Q a w):=by
 have hkn:=(List.getElem?_eq_some_iff.1 hk).1;cases b with
 |true=>
  exact bK (C:=clR []) (H0:=⟨3,[(0,.cells cs sz)]⟩) (e:=clF o xs.length c true k) (H:=⟨3,[(0,.cells cs sz)]⟩) (n:=60) (ts:=[56,55,54,2,6]) (bo:=[]) (bs:=[]) (A:=[]) (B:=[(0,.cells cs sz)]) (D:=[]) (zH .nil) aO zG
   (by
    unfold clR;refine(aG8 aG _ _ _ _ _ cs sz o xs.length c k _).trans ?_;rw[D7 (show(k:Int)<xs.length by omega),T7,jN,T7,uH hx hk];cases h4:x.kind==4 with
    |false=>rw[F7,aI,fN (by omega)]
    |true=>obtain⟨m,e1,e2⟩:=hw (by simpa using h4);rw[T7,e1,Option.bind_some,aI,cB,e2,F7,aI,fN (by omega)]) rfl
   rfl rfl rfl rfl rfl rfl
 |false=>
  exact bK (C:=clR []) (H0:=⟨3,[(0,.cells cs sz)]⟩) (e:=clF o xs.length c false k) (H:=⟨3,[(0,.cells cs sz)]⟩) (n:=60) (ts:=[56,55,54,2,6]) (bo:=[]) (bs:=[]) (A:=[]) (B:=[(0,.cells cs sz)]) (D:=[]) (zH .nil) aO zG
   (by unfold clR;refine(aG7 aG _ _ _ _ _ cs sz o xs.length c k _).trans ?_;rw[D7 (show(k:Int)<xs.length by omega),T7,jN,T7,uH hx hk,aI,fN (by omega)]) rfl
   rfl rfl rfl rfl rfl rfl
theorem bDh:
  cI P9 1 76 ⟨3,[(0,.cells cs sz)]⟩ (clF o n c b n) ⟨3,[(0,.cells cs sz)]⟩ (.exit 2) (clF o n c b n) ⟨3,[(0,.cells cs sz)]⟩ (λQ a w=>clB.wp P9 Q a w):=by
 cases b with
 |true=>
  exact bK (C:=clR []) (H0:=⟨3,[(0,.cells cs sz)]⟩) (e:=clF o n c true n) (H:=⟨3,[(0,.cells cs sz)]⟩) (n:=60) (ts:=[56,55,54,2,6]) (bo:=[]) (bs:=[]) (A:=[]) (B:=[(0,.cells cs sz)]) (D:=[]) (zH .nil) aO zG
   (by unfold clR;refine(aG8 aG _ _ _ _ _ cs sz o n c n _).trans ?_;rw[E7 (by omega)];rfl) rfl rfl rfl rfl rfl rfl rfl
 |false=>
  exact bK (C:=clR []) (H0:=⟨3,[(0,.cells cs sz)]⟩) (e:=clF o n c false n) (H:=⟨3,[(0,.cells cs sz)]⟩) (n:=60) (ts:=[56,55,54,2,6]) (bo:=[]) (bs:=[]) (A:=[]) (B:=[(0,.cells cs sz)]) (D:=[]) (zH .nil) aO zG
   (by unfold clR;refine(aG7 aG _ _ _ _ _ cs sz o n c n _).trans ?_;rw[E7 (by omega)];rfl) rfl rfl rfl rfl rfl rfl rfl
theorem aUn(hx:uP cs o xs)(hn:xs.length<900000)(hs:∀x∈xs,aC2 c1 c2 S.lw x)(hw:∀x∈xs,aWn x)(hf:kZ 0 cs=true)(ha:aD P9 85 [cW o xs.length c,ciV c1 c2 r] ⟨1,[(0,.cells cs sz)]⟩ (.int .i64 0)):
  aD P9 38 [cW o xs.length c,ciV c1 c2 r,.bool b] ⟨1,[(0,.cells cs sz)]⟩ (.int .i64 (bif xs.any (oC S) then 210 else 0)):=by
 have ha':aD P9 85 [cW o xs.length c,ciV c1 c2 r] ⟨3,clD o xs.length c c1 c2 r++[(0,.cells cs sz)]⟩ (.int .i64 0):=aD.one ha hf (by simp) rfl;have hgs:aWj P9 [(85,bF (.int .i64 0) (fJ P9 85 (.int .i64 0)))]:=.cons (gL rfl) cFj .nil;have hB:dH P9 1 76 ⟨3,[(0,.cells cs sz)]⟩ clB (clF o xs.length c b (0:Nat)) ⟨3,[(0,.cells cs sz)]⟩ (.exit 2) (clF o xs.length c b xs.length) ⟨3,[(0,.cells cs sz)]⟩:=
  fQ (E:=λk:Nat=>clF o xs.length c b k) (H:=λ_=>⟨3,[(0,.cells cs sz)]⟩) xs.length 0 (λk _ hk=>by have hk':=List.getElem?_eq_getElem (show k<xs.length by omega);exact bDi hx hn hk' (hw _ (List.getElem_mem _))) (gY (by intro h;cases h) (by simp only[Nat.zero_add];exact bDh))
 have hB':=@gG _ _ _ _ _ _ _ _ _ hB;cases hany:xs.any (oC S) with
 |false=>
  have hA:dH P9 1 76 ⟨3,clD o xs.length c c1 c2 r++[(0,.cells cs sz)]⟩ clA (clE o xs.length c S.t b (0:Nat)) ⟨3,clD o xs.length c c1 c2 r++[(0,.cells cs sz)]⟩ (.exit 0) (clE o xs.length c S.t b xs.length) ⟨3,clD o xs.length c c1 c2 r++[(0,.cells cs sz)]⟩:=
   fQ (E:=λk:Nat=>clE o xs.length c S.t b k) (H:=λ_=>⟨3,clD o xs.length c c1 c2 r++[(0,.cells cs sz)]⟩) xs.length 0 (λk _ hk=>by have hk':=List.getElem?_eq_getElem (show k<xs.length by omega);exact aQ7 S hx hn hk' (hs _ (List.getElem_mem _)) (bM7 hany k _ hk')) (gY (by intro h;cases h) (by simp only[Nat.zero_add];exact bDg S))
  have hA':=@gG _ _ _ _ _ _ _ _ _ hA;have h:=bHm (told P9 (.exit 0) (clE o xs.length c S.t b xs.length) ⟨3,clD o xs.length c c1 c2 r++[(0,.cells cs sz)]⟩) (told P9 (.exit 2) (clF o xs.length c b xs.length) ⟨3,[(0,.cells cs sz)]⟩) aG (Ex×Env×dF) rEl rSt (rAp P9) (aGb gJ cQ) (fJ P9 85 (.int .i64 0)) cs sz o xs.length c c1 c2 r b λex e O=>some (ex,e,O)
  rw[cO ha',pW S.ht]at h;have h:=h.trans (gT @hA' _ _);rw[cX,bRr]at h;have h:=h.trans (gT @hB' _ _);rw[cX,bRq]at h;exact fK (C:=clR [(85,bF (.int .i64 0) (fJ P9 85 (.int .i64 0)))]) (args:=[cW o xs.length c,ciV c1 c2 r,.bool b]) (H:=⟨1,[(0,.cells cs sz)]⟩) (zH hgs) aO Tryz.func38 aW8 (λa _=>aCh (dJ (gN _ _ _ _ a)) (dJ (gN _ _ _ _ a))) (kK rfl) h (.inr rfl) (vs:=[.int .i64 0]) rfl rfl
 |true=>
  obtain⟨j,x,e1,e2,e3⟩:=aIy hany;have hj:=(List.getElem?_eq_some_iff.1 e1).1;have hA:dH P9 1 76 ⟨3,clD o xs.length c c1 c2 r++[(0,.cells cs sz)]⟩ clA (clE o xs.length c S.t b (0:Nat)) ⟨3,clD o xs.length c c1 c2 r++[(0,.cells cs sz)]⟩ .ret (clE o xs.length c S.t b j++[(6,.int .i64 210)]) ⟨3,clD o xs.length c c1 c2 r++[(0,.cells cs sz)]⟩:=
   fQ (E:=λk:Nat=>clE o xs.length c S.t b k) (H:=λ_=>⟨3,clD o xs.length c c1 c2 r++[(0,.cells cs sz)]⟩) j 0 (λk _ hk=>by have hk':=List.getElem?_eq_getElem (show k<xs.length by omega);exact aQ7 S hx hn hk' (hs _ (List.getElem_mem _)) (e3 k _ (by omega) hk')) (gY (by intro h;cases h) (by simp only[Nat.zero_add];exact bKp S hx hn e1 (hs _ (List.mem_of_getElem? e1)) e2))
  have hA':=@gG _ _ _ _ _ _ _ _ _ hA;have h:=bHm (told P9 .ret (clE o xs.length c S.t b j++[(6,.int .i64 210)]) ⟨3,clD o xs.length c c1 c2 r++[(0,.cells cs sz)]⟩) noL aG (Ex×Env×dF) rEl rSt (rAp P9) (aGb gJ cQ) (fJ P9 85 (.int .i64 0)) cs sz o xs.length c c1 c2 r b λex e O=>some (ex,e,O)
  rw[cO ha',pW S.ht]at h;have h:=h.trans (gT @hA' _ _);exact fK (C:=clR [(85,bF (.int .i64 0) (fJ P9 85 (.int .i64 0)))]) (args:=[cW o xs.length c,ciV c1 c2 r,.bool b]) (H:=⟨1,[(0,.cells cs sz)]⟩) (zH hgs) aO Tryz.func38 aW8 (λa _=>aCh (dJ qU) (dJ (gN _ _ _ _ a))) (kK rfl) h (.inr rfl) (vs:=[.int .i64 210]) rfl rfl
end
noncomputable def suA:Code:=sI (bB 44) 0
noncomputable def suC(fi:Fi)(gc:GC)(st:St)(ap:Ap)(add:gU):Cx:=
 cxM fi P9 (λ_ _=>none) [(26,jH add)] [] [] [] (aPh la0 [(32,gC gc)] st ap)
def suE(o n c x y:Nat)(k:Int):Env:=[(7,.int .i64 k),(6,.int .i64 n),(0,.slice (some ⟨0,o,none⟩) n c),(3,.complex .f64 x y)]
section
variable(L:qR)(fi:Fi)(R:Type)(gc:GC)(st:St)(ap:Ap)(add:gU)(cs:List V9)(sz o n c k x y:Nat)(K:Ex->Env->dF->Option R)
theorem aT5:bE (suC fi gc st ap add) 60 noL 1 23 suA (suE o n c x y k) ⟨1,[(0,.cells cs sz)]⟩ (aU [7,6,0,3] [] K) =
  bif decide ((k:Int)<n) then
   bif(k:Int)==0 then
    bif true&&decide ((0:Int)<n)&&true then gc R cs (o+0*1) λa b=>fi R (K9.i64.wrap (k+1)) λi=>K .normal (suE o n c a b i) [] else none
   else bif decide (0<=(k:Int))&&decide ((k:Int)<n)&&true then gc R cs (o+k*1) λa b=>add R x y a b λa b=>fi R (K9.i64.wrap (k+1)) λi=>K .normal (suE o n c a b i) [] else none
  else K (.exit 0) (suE o n c x y k) []:=by kernel_rfl
theorem bVt:bE (suC fi gc st ap add) 60 (eS [7,6,0,3] [0] L) 1 23 (bB 44) (gX 0 [.slice (some ⟨0,o,none⟩) n c]) ⟨1,[(0,.cells cs sz)]⟩ (aU [2] [] K) =
  L R 1 23 suA (suE o n c 0 0 0) ⟨1,[(0,.cells cs sz)]⟩ (fS 0 (jP (λen H=>bE (suC fi gc st ap add) 60 (eS [7,6,0,3] [0] L) 1 23 (lJ 3 (bB 44)) en H (aU [2] [] K)) (aU [2] [] K))):=by kernel_rfl
theorem bVs:bE (suC fi gc st ap add) 60 L 1 23 (lJ 3 (bB 44)) (suE o n c x y k) ⟨1,[(0,.cells cs sz)]⟩ (aU [2] [] K)=K .ret [(2,.complex .f64 x y)] []:=by kernel_rfl
end
theorem bOn:Tryz.f44.body=some (bB 44):=by kernel_rfl
theorem aWd:Has P9 44:=⟨Tryz.f44,_,Tryz.func44,by kernel_rfl,rfl⟩
theorem aT4:fP suA=[]:=by kernel_rfl
theorem bZ8:aNv P9 [(32,gC rC)]:=.cons (bTn cAl) .nil
noncomputable def suR:Cx:=suC aG rC rSt (rAp P9) jJ
theorem bBu:suR.Ok:=lS jR (.cons k84 h84 .nil) lY .nil .nil (jX bZ8)
def bA(zs:List (Nat×Nat)):List V9:=zs.map λz=>.complex .f64 z.1 z.2
def bW5(cs:List V9)(o:Nat)(zs:List (Nat×Nat)):Prop:=∀i z,zs[i]?=some z->cs[o+i]?=some (.complex .f64 z.1 z.2)
theorem mG(zs:List (Nat×Nat)):bW5 (bA zs) 0 zs:=λi z h=>by unfold bA;rw[Nat.zero_add,List.getElem?_map,h];rfl
theorem bU2{cs:List V9}{o:Nat}{zs:List (Nat×Nat)}(h:bW5 cs o zs){i:Nat}{z:Nat×Nat}(hz:zs[i]?=some z)(R:Type)(k:KNN R):rC R cs (o+i*1) k=k z.1 z.2:=by unfold rC;rw[Nat.mul_one,h i z hz]
def cEs(a b c:Nat×Nat):Prop:=∀(R:Type)(k:KNN R),jJ R a.1 a.2 b.1 b.2 k=k c.1 c.2
structure aGf(zs:List (Nat×Nat))(f:Nat->Nat×Nat):Prop where
 zero:f 0=(0,0)
 one:∀z,zs[0]?=some z->f 1=z
 step:∀k z,0<k->zs[k]?=some z->cEs (f k) z (f (k+1))
section
variable{cs:List V9}{sz o c:Nat}{zs:List (Nat×Nat)}{f:Nat->Nat×Nat}
theorem bOp(hx:bW5 cs o zs)(hn:zs.length<900000)(hf:aGf zs f){k:Nat}{z:Nat×Nat}(hk:zs[k]?=some z):
  cI P9 1 23 ⟨1,[(0,.cells cs sz)]⟩ (suE o zs.length c (f k).1 (f k).2 k) ⟨1,[(0,.cells cs sz)]⟩ .normal (suE o zs.length c (f (k+1)).1 (f (k+1)).2 (k+1:Nat)) ⟨1,[(0,.cells cs sz)]⟩ (λQ a w=>suA.wp P9 Q a w):=by
 have hkn:=(List.getElem?_eq_some_iff.1 hk).1;exact bK (C:=suR) (H0:=⟨1,[(0,.cells cs sz)]⟩) (e:=suE o zs.length c (f k).1 (f k).2 k) (H:=⟨1,[(0,.cells cs sz)]⟩) (n:=60) (ts:=[7,6,0,3]) (bo:=[]) (bs:=[]) (A:=[]) (B:=[(0,.cells cs sz)]) (D:=[]) (e1:=suE o zs.length c (f (k+1)).1 (f (k+1)).2 (k+1:Nat)) (O1:=[]) bBu aO aT4
  (by
   unfold suR;refine(aT5 aG _ _ _ _ _ cs sz o zs.length c k _ _ _).trans ?_;rw[D7 (show(k:Int)<zs.length by omega),T7,jN,D7 (show(0:Int)<zs.length by omega)];cases k with
   |zero=>rw[show(((0:Nat):Int)==0)=true from rfl,T7,show(true&&true&&true)=true from rfl,T7,bU2 hx hk,aI,fN (by omega),show f (0+1)=z from hf.one z hk]
   |succ k=>rw[show(((k+1:Nat):Int)==0)=false from by simp;omega,F7,T7,bU2 hx hk,hf.step (k+1) z (by omega) hk,aI,fN (by omega)]) rfl
  rfl rfl rfl rfl rfl rfl
theorem bOo{x y n:Nat}:
  cI P9 1 23 ⟨1,[(0,.cells cs sz)]⟩ (suE o n c x y n) ⟨1,[(0,.cells cs sz)]⟩ (.exit 0) (suE o n c x y n) ⟨1,[(0,.cells cs sz)]⟩ (λQ a w=>suA.wp P9 Q a w):=by
 exact bK (C:=suR) (H0:=⟨1,[(0,.cells cs sz)]⟩) (e:=suE o n c x y n) (H:=⟨1,[(0,.cells cs sz)]⟩) (n:=60) (ts:=[7,6,0,3]) (bo:=[]) (bs:=[]) (A:=[]) (B:=[(0,.cells cs sz)]) (D:=[]) bBu aO aT4
  (by unfold suR;refine(aT5 aG _ _ _ _ _ cs sz o n c n _ _ _).trans ?_;rw[E7 (by omega)];rfl) rfl rfl rfl rfl rfl rfl rfl
theorem pS(hx:bW5 cs o zs)(hn:zs.length<900000)(hf:aGf zs f):aD P9 44 [.slice (some ⟨0,o,none⟩) zs.length c] ⟨1,[(0,.cells cs sz)]⟩ (.complex .f64 (f zs.length).1 (f zs.length).2):=by
 have hB:dH P9 1 23 ⟨1,[(0,.cells cs sz)]⟩ suA (suE o zs.length c 0 0 (0:Nat)) ⟨1,[(0,.cells cs sz)]⟩ (.exit 0) (suE o zs.length c (f zs.length).1 (f zs.length).2 zs.length) ⟨1,[(0,.cells cs sz)]⟩:=by have:=fQ (P:=P9) (lo:=1) (sz:=23) (a:=suA) (H0:=⟨1,[(0,.cells cs sz)]⟩) (E:=λk:Nat=>suE o zs.length c (f k).1 (f k).2 k) (H:=λ_=>⟨1,[(0,.cells cs sz)]⟩) (ex:=.exit 0) (e':=suE o zs.length c (f zs.length).1 (f zs.length).2 zs.length) (H':=⟨1,[(0,.cells cs sz)]⟩) zs.length 0 (λk _ hk=>by exact bOp hx hn hf (List.getElem?_eq_getElem (show k<zs.length by omega))) (gY (by intro h;cases h) (by simp only[Nat.zero_add];exact bOo));simp only[hf.zero]at this;exact this
 have hB':=@gG _ _ _ _ _ _ _ _ _ hB;have h:=bVt (told P9 (.exit 0) (suE o zs.length c (f zs.length).1 (f zs.length).2 zs.length) ⟨1,[(0,.cells cs sz)]⟩) aG (Ex×Env×dF) rC rSt (rAp P9) jJ cs sz o zs.length c λex e O=>some (ex,e,O)
 have h:=h.trans (gT @hB' _ _);rw[cX,bVs]at h;exact fK (C:=suR) (args:=[.slice (some ⟨0,o,none⟩) zs.length c]) (H:=⟨1,[(0,.cells cs sz)]⟩) bBu aO Tryz.func44 bOn (λa _=>dJ (gN _ _ _ _ a)) (kK rfl) h (.inr rfl) (vs:=[.complex .f64 (f zs.length).1 (f zs.length).2]) rfl rfl
theorem aU2{f:FuncId}{args:List V9}{H:AH}{v:V9}(hfl:kZ 0 args=true)(h:fC (cxm P9 hot) 1000 f args some=some v):aD P9 f args H v:=by obtain⟨u,h1,_,h2⟩:=cD (aD9 aEh) aO h hfl;cases h1;intro ρ w args' hi ha;rw[ha.flat_eq hfl];exact h2 w
theorem xP{H:AH}:aD P9 44 [.slice none 0 0] H (.complex .f64 0 0):=aU2 rfl (by kernel_rfl)
end
abbrev KSi:=∀R:Type,Int->Nat->Nat->Nat->Nat->Nat->(Int->Option R)->Option R
def sSi(g:KSi):Sum:=λR args k=>match args with
 |[.agg ⟨[.int .u8 kind,.complex .f64 a1 a2,.complex .f64 s1 s2,.float .f64 p]⟩,.agg ⟨[.complex .f64 c1 c2,.float .f64 r]⟩]=>g R kind a1 a2 c1 c2 r λv=>k (.int .i64 v)
 |_=>none
def siC(out:bQb):KSi:=λR kind a1 a2 c1 c2 r k=>out R a1 a2 c1 c2 λl=>bif kind==1 then k 0 else bif ltF l r then k (-1) else k 1
theorem cHa(out:bQb)(R:Type)(kind:Int)(a1 a2 s1 s2 p c1 c2 r:Nat)(k:KVO R):
  fC (cx P9 [(86,bX6 out)]) 60 41 [.agg ⟨[.int .u8 kind,.complex .f64 a1 a2,.complex .f64 s1 s2,.float .f64 p]⟩,.agg ⟨[.complex .f64 c1 c2,.float .f64 r]⟩] k=siC out R kind a1 a2 c1 c2 r λv=>k (.int .i64 v):=by kernel_rfl
theorem cC9:Has P9 41:=⟨Tryz.f41,_,Tryz.func41,by kernel_rfl,rfl⟩
theorem cD2:cH P9 41 (sSi (siC (aGb gJ cQ))):=dL aO (.cons cD6 cDe .nil) (n:=60) λR args k r hr=>by
 unfold sSi at hr;split at hr;· exact⟨rfl,(cHa (aGb gJ cQ) R _ _ _ _ _ _ _ _ _ k).trans hr⟩
 ·cases hr
noncomputable def thA:Code:=sI (bB 82) 0
noncomputable def thC(lim:Nat->Bool)(fi:Fi)(ge:GEl)(st:St)(ap:Ap)(si:KSi)(gl:List (Nat×vP)):Cx:=
 cxM fi P9 (λ_ _=>none) [(41,sSi si)] [] gl [] (aPh lim [(39,gEl ge)] st ap)
def thE(o n c:Nat)(w:Int)(s:V9)(k:Int):Env:=[(21,.int .i64 k),(20,.int .i64 n),(19,.slice (some ⟨0,o,none⟩) n c),(4,.pointer (some ⟨2,0,none⟩)),(2,.int .i64 w),(9,s)]
section
variable(L:qR)(fi:Fi)(R:Type)(ge:GEl)(st:St)(ap:Ap)(si:KSi)(ga:HT)(gl:List (Nat×vP))(cs os:List V9)(sz o n c j k c1 c2 r:Nat)(w:Int)(s:V9)(K:Ex->Env->dF->Option R)
theorem bB5:bE (thC la0 fi ge st ap si []) 60 noL 1 37 thA (thE o n c w bL k) ⟨3,clD o n c c1 c2 r++[(0,.cells cs sz)]⟩ (aU [21,20,19,4,2,9] [2,1,5] K) =
  bif decide ((k:Int)<n) then
   bif decide (0<=(k:Int))&&decide ((k:Int)<n)&&true then
    ge R cs (o+k*4) λkind a1 a2 s1 s2 p=>si R kind a1 a2 c1 c2 r λv=>
     bif v==w then fi R (K9.i64.wrap (k+1)) λi=>K .normal (thE o n c w (sl3 5 1) i) (clD o n c c1 c2 r++[(5,.cells [.int .i64 (k:Int)] 1)])
     else fi R (K9.i64.wrap (k+1)) λi=>K .normal (thE o n c w bL i) (clD o n c c1 c2 r)
   else none
  else K (.exit 0) (thE o n c w bL k) (clD o n c c1 c2 r):=by kernel_rfl
theorem bPb:bE (thC oa3 fi ge st ap si []) 60 noL 1 37 thA (thE o n c w (sl3 3 j) k) ⟨4,clD o n c c1 c2 r++[(3,.cells os 1),(0,.cells cs sz)]⟩ (aU [21,20,19,4,2,9] [2,1,6] K) =
  bif decide ((k:Int)<n) then
   bif decide (0<=(k:Int))&&decide ((k:Int)<n)&&true then
    ge R cs (o+k*4) λkind a1 a2 s1 s2 p=>si R kind a1 a2 c1 c2 r λv=>
     bif v==w then ap R 68 os j j [.int .i64 (k:Int)] 0 1 λos=>fi R (K9.i64.wrap (k+1)) λi=>K .normal (thE o n c w (sl3 6 (j+1)) i) (clD o n c c1 c2 r++[(6,.cells os 1)])
     else fi R (K9.i64.wrap (k+1)) λi=>K .normal (thE o n c w (sl3 3 j) i) (clD o n c c1 c2 r)
   else none
  else K (.exit 0) (thE o n c w (sl3 3 j) k) (clD o n c c1 c2 r):=by kernel_rfl
theorem bB4:bE (thC oa3 fi ge st ap si []) 60 noL 1 37 thA (thE o n c w (sl3 3 j) k) ⟨4,clD o n c c1 c2 r++[(3,.cells os 1),(0,.cells cs sz)]⟩ (aU [21,20,19,4,2,9] [2,1,3] K) =
  bif decide ((k:Int)<n) then
   bif decide (0<=(k:Int))&&decide ((k:Int)<n)&&true then
    ge R cs (o+k*4) λkind a1 a2 s1 s2 p=>si R kind a1 a2 c1 c2 r λv=>
     bif v==w then ap R 68 os j j [.int .i64 (k:Int)] 0 1 λos=>fi R (K9.i64.wrap (k+1)) λi=>K .normal (thE o n c w (sl3 6 (j+1)) i) (clD o n c c1 c2 r)
     else fi R (K9.i64.wrap (k+1)) λi=>K .normal (thE o n c w (sl3 3 j) i) (clD o n c c1 c2 r++[(3,.cells os 1)])
   else none
  else K (.exit 0) (thE o n c w (sl3 3 j) k) (clD o n c c1 c2 r++[(3,.cells os 1)]):=by kernel_rfl
theorem bPd:bE (thC la0 fi ge st ap si [(38,bF (.int .i64 0) ga)]) 60 (eS [21,20,19,4,2,9] [2,1,0] L) 1 37 (bB 82) (gX 0 [cW o n c,ciV c1 c2 r,.int .i64 w]) ⟨1,[(0,.cells cs sz)]⟩ (aU [6,7] [3] K) =
  ga R [cW o n c,ciV c1 c2 r,.bool false] ⟨3,clD o n c c1 c2 r++[(0,.cells cs sz)]⟩ (L R 1 37 thA (thE o n c w bL 0) ⟨3,clD o n c c1 c2 r++[(0,.cells cs sz)]⟩
   (fS 0 (jP (λen H=>bE (thC la0 fi ge st ap si [(38,bF (.int .i64 0) ga)]) 60 (eS [21,20,19,4,2,9] [2,1,0] L) 1 37 (lJ 4 (bB 82)) en H (aU [6,7] [3] K)) (aU [6,7] [3] K)))):=by kernel_rfl
theorem bO8(nx:Nat)(O:dF):bE (thC la0 fi ge st ap si gl) 60 L 1 37 (lJ 4 (bB 82)) (thE o n c w s k) ⟨nx,O⟩ (aU [6,7] [3] K)=K .ret [(6,s),(7,.int .i64 0)] (vL [3] O):=by kernel_rfl
end
end Go.Vm
