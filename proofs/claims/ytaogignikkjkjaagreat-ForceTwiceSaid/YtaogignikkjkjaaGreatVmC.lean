/- A part; no conditions. -/
import Derived.Test.YtaogignikkjkjaaGreatVmAL0
import Derived.IntWalk
set_option maxRecDepth 1000000
set_option maxHeartbeats 1000000
set_option linter.all false
open Nat renaming beq->N9,le_refl->L9
open Bool renaming and_eq_true->B9
open Go renaming Value->V9,Program->Q9,World->W9,TypeId->I9,IntKind->K9,Oper->X9,Operand->Y9,execOp->G9,run_underlying->A9
namespace Go.Vm
def calm{α:Type}(P:Q9):Sem α->Option α
 |.pure a=>some a
 |.program k=>calm P (k P)
 |.mark _ k=>calm P k
 |_=>none
theorem bV{α:Type}{P:Q9}:∀{s:Sem α}{x:α},calm P s=some x->∀w,s.run P w=.ok x w
 |.pure a,x,h,w=>by simp[calm]at h;subst h;rfl
 |.program k,x,h,w=>bV (s:=k P) h w
 |.mark m k,x,h,w=>bV (s:=k) h w
 |.load ..,_,h,_ | .store ..,_,h,_ | .new ..,_,h,_ | .shape ..,_,h,_ | .freeze ..,_,h,_ | .frozen ..,_,h,_
 |.getObj ..,_,h,_ | .setObj ..,_,h,_ | .choose ..,_,h,_ | .sys ..,_,h,_ | .halt ..,_,h,_=>by simp[calm]at h
def aYm{R:Type}(n:Int)(k:Int->R):R:=match n with | .ofNat a=>bH a λa=>k (.ofNat a) | .negSucc a=>bH a λa=>k (.negSucc a)
theorem aYn{R:Type}(n:Int)(k:Int->R):aYm n k=k n:=by cases n<;>simp[aYm,cB]
abbrev Fi:=∀R:Type,Int->(Int->Option R)->Option R
def Fi.Fair(fi:Fi):Prop:=∀(R:Type)(n:Int)(k:KIO R),fi R n k=k n
def aG:Fi:=λR n k=>aYm n k
theorem aI:Fi.Fair aG:=λR n k=>aYn n k
def aW{R:Type}(b:Bool)(k:Bool->R):R:=match b with|true=>k true|false=>k false
theorem aJ{R:Type}(b:Bool)(k:Bool->R):aW b k=k b:=by cases b<;>rfl
def aM{R:Type}(o:Option Nat)(k:KNO R):Option R:=o.bind λn=>bH n k
theorem lG{R:Type}{o:Option Nat}{k:Nat->Option R}{r:R}(h:aM o k=some r):∃n,o=some n/\k n=some r:=by
 cases o with
 |none=>simp[aM]at h
 |some n=>exact⟨n,rfl,by simpa[aM,cB] using h⟩
theorem aB{α R:Type}{o:Option α}{k:α->Option R}{r:R}(h:o.bind k=some r):∃n,o=some n/\k n=some r:=by
 cases o with
 |none=>simp at h
 |some n=>exact⟨n,rfl,by simpa using h⟩
def opd(e:Env):Y9->Option V9
 |.tmp t=>rZ t e
 |.const v=>bif flat v then some v else none
 |.global _=>none
 |.func f=>some (.func (.func f) #[] #[])
theorem cZ{ρ:Map}{e:Env}{a:Act}(he:fW ρ e a.tmps){x:Y9}{v:V9}(h:opd e x=some v):dW ρ v (a.eval x):=by
 cases x with
 |tmp t=>obtain⟨v',h1,h2⟩:=he t v h;simp only[Act.eval,Array.getD_eq_getD_getElem?,h1,Option.getD_some];exact h2
 |const u=>
  simp only[opd]at h;cases hf:flat u with
  |true=>simp[hf]at h;subst h;exact dW.ofFlat ρ hf
  |false=>simp[hf]at h
 |global g=>simp[opd]at h
 |func f=>simp[opd]at h;subst h;exact .func _ .nil .nil
def lO(P:Q9)(lo:Nat)(o:X9)(a:Act)(ρ:Map)(H:AH)(w:W9)(v:V9)(H':AH):Prop:=
 ∃ρ' w' v' n,(G9 a.eval o).run P w=.ok n w'/\(n=.value v'\/(n=.skip/\v'=undef))/\Next lo ρ H w ρ' H' w'/\dW ρ' v v'
theorem lO.calm{P:Q9}{lo:Nat}{o:X9}{a:Act}{ρ:Map}{H:AH}{w:W9}{v v':V9}(hi:Inv ρ H w)(hr:(G9 a.eval o).run P w=.ok (.value v') w)(hv:dW ρ v v'):lO P lo o a ρ H w v H:=
 ⟨ρ,w,v',_,hr,.inl rfl,Next.refl hi,hv⟩
theorem cF.length{ρ:Map}:∀{v v':List V9},cF ρ v v'->v'.length=v.length
 |_,_,.nil=>rfl
 |_,_,.cons _ hs=>by simp[hs.length]
theorem cF.append{ρ:Map}:∀{a a' b b':List V9},cF ρ a a'->cF ρ b b'->cF ρ (a++b) (a'++b')
 |_,_,_,_,.nil,h=>h
 |_,_,_,_,.cons h hs,g=>.cons h (hs.append g)
theorem cF.drop{ρ:Map}:∀{a a':List V9}(n:Nat),cF ρ a a'->cF ρ (a.drop n) (a'.drop n)
 |_,_,0,h=>h
 |_,_,n+1,.nil=>.nil
 |_,_,n+1,.cons _ hs=>by simpa using hs.drop n
theorem cF.take{ρ:Map}:∀{a a':List V9}(n:Nat),cF ρ a a'->cF ρ (a.take n) (a'.take n)
 |_,_,0,_=>.nil
 |_,_,n+1,.nil=>.nil
 |_,_,n+1,.cons h hs=>by simpa using .cons h (hs.take n)
theorem cF.get{ρ:Map}:∀{a a':List V9}(n:Nat){v:V9},cF ρ a a'->a[n]?=some v->∃v',a'[n]?=some v'/\dW ρ v v'
 |_,_,_,_,.nil,h=>by simp at h
 |_,_,0,_,.cons h _,e=>by simp at e;subst e;exact⟨_,rfl,h⟩
 |_,_,n+1,_,.cons _ hs,e=>by simpa using hs.get n (by simpa using e)
theorem dW.oneCell{ρ:Map}{v v':V9}(h:dW ρ v v')(h1:v.oneCell'=true):v'.oneCell'=true:=by cases h<;>simp_all [V9.oneCell']
theorem dW.cells{ρ:Map}{v v':V9}(h:dW ρ v v'):cF ρ v.cells.toList v'.cells.toList:=by
 cases h with
 |agg h=>simpa[V9.cells] using h
 |bool b=>exact .cons (.bool b) .nil
 |int k n=>exact .cons (.int k n) .nil
 |float n=>exact .cons (.float n) .nil
 |nan n h=>exact .cons (.nan n h) .nil
 |complex x y=>exact .cons (.complex x y) .nil
 |cnan h g=>exact .cons (.cnan h g) .nil
 |string s=>exact .cons (.string s) .nil
 |nilPtr=>exact .cons .nilPtr .nil
 |ptr h=>exact .cons (.ptr h) .nil
 |nilSlice n c=>exact .cons (.nilSlice n c) .nil
 |slice h=>exact .cons (.slice h) .nil
 |nilMap=>exact .cons .nilMap .nil
 |map h=>exact .cons (.map h) .nil
 |nilFunc=>exact .cons .nilFunc .nil
 |func f ha hb=>exact .cons (.func f ha hb) .nil
 |nilIface=>exact .cons .nilIface .nil
 |iface t h=>exact .cons (.iface t h) .nil
 |tuple h=>exact .cons (.tuple h) .nil
def aCd(P:Q9)(t:I9):Bool:=
 match P.underlying t with
 |some (.struct _)=>true
 |some (.array _ _)=>true
 |_=>false
def aCx{R:Type}(P:Q9)(t:I9)(cs:List V9)(off:Nat)(k:KVO R):Option R:=
 bif aCd P t then
  bif Nat.ble (off+P.cellsOf t) cs.length && !N9 (P.cellsOf t) 0 then k (.agg ⟨(cs.drop off).take (P.cellsOf t)⟩) else none
 else bif(P.underlying t).isSome then(cs[off]?).bind k else none
theorem uX{P:Q9}{t:I9}(h:P.cellsOf t≠0):(P.info? t).map (·.size)=some (P.cellsOf t):=by
 unfold Q9.cellsOf at *
 cases hi:P.info? t with
 |none=>simp[hi]at h
 |some i=>simp
theorem aBx{P:Q9}{t:I9}{d:TypeDesc}{ad:Addr}{v:V9}{w:W9}(hu:P.underlying t=some d)(hd:d.isRow=false)(hc:w.cell? ad=some v):(loadVar t ad).run P w=.ok v w:=by
 have:(isAgg t).run P w=.ok false w:=by unfold isAgg;rw[Sem.run_bind,A9 hu w];cases d<;>simp_all
 simp[loadVar,this,hc]
theorem yO{R:Type}{P:Q9}{t:I9}{cs:List V9}{off:Nat}{k:V9->Option R}{r:R}(h:aCx P t cs off k=some r):
  ∃v,k v=some r/\∀{ρ:Map}{s:aC3}{sz:Nat}{w:W9},yW ρ (.cells cs sz) s w->∃v',(loadVar t ⟨s.b,s.d+off,none⟩).run P w=.ok v' w/\dW ρ v v':=by
 have hcell:∀{arr:Array V9}{ty:I9}{cs':List V9}{s:aC3}{w:W9},∀{n:Nat},aV8 w s.b arr ty s.d n->(∀(i:Nat) v,cs'[i]?=some v->arr[s.d+i]?=some v)->
   ∀(i:Nat) v,cs'[i]?=some v->w.cell? ⟨s.b,s.d+i,none⟩=some v:=λhb hc i v hv=>by
  obtain⟨⟨fr,hb⟩,_⟩:=hb;simp[W9.cell?,hb,hc i v hv]
 unfold aCx at h;cases hrow:aCd P t with
 |true=>
  simp only[hrow,T7]at h;cases hlen:Nat.ble (off+P.cellsOf t) cs.length && !N9 (P.cellsOf t) 0 with
  |false=>simp[hlen]at h
  |true=>
   simp only[hlen,T7]at h;simp only[B9,Nat.ble_eq,Bool.not_eq_true']at hlen;have hz:P.cellsOf t≠0:=λe=>by have:=hlen.2;simp[e]at this
   have hd:∃d,P.underlying t=some d/\d.isRow=true:=by
    unfold aCd at hrow;split at hrow;· exact⟨_,‹_›,rfl⟩
    ·exact⟨_,‹_›,rfl⟩
    ·cases hrow
   obtain⟨d0,hu,hd0⟩:=hd;refine⟨_,h,λ{ρ s sz w} ho=>?_⟩;obtain⟨arr,ty,cs',hb,hr,hc,_⟩:=ho;have hl:((cs'.drop off).take (P.cellsOf t)).length=P.cellsOf t:=by have:=hr.length;simp;omega
   refine⟨.agg ⟨(cs'.drop off).take (P.cellsOf t)⟩,?_,.agg ((hr.drop off).take _)⟩;refine run_loadVar_mid w s.b (s.d+off) t _ d0 (λj v hv=>?_) hu hd0 (by rw[hl];exact uX hz);rw[Nat.add_assoc];refine hcell hb hc (off+j) v ?_;rw[List.getElem?_take]at hv;split at hv;· simpa[List.getElem?_drop] using hv
   ·cases hv
 |false=>
  simp only[hrow,F7]at h;cases hu:P.underlying t with
  |none=>simp[hu]at h
  |some d0=>
   simp only[hu,Option.isSome_some,T7]at h;obtain⟨v,h1,h2⟩:=aB h;have hd0:d0.isRow=false:=by unfold aCd at hrow;rw[hu]at hrow;cases d0<;>simp_all
   refine⟨v,h2,λ{ρ s sz w} ho=>?_⟩;obtain⟨arr,ty,cs',hb,hr,hc,_⟩:=ho;obtain⟨v',h3,h4⟩:=hr.get off h1;exact⟨v',aBx hu hd0 (hcell hb hc off v' h3),h4⟩
def splice(cs:List V9)(off:Nat)(vs:List V9):List V9:=cs.take off++(vs++cs.drop (off+vs.length))
def mK:List V9->Bool
 |[]=>true
 |v::r=>v.oneCell'&&mK r
theorem aA4{ρ:Map}:∀{v v':List V9},cF ρ v v'->mK v=true->∀x∈v',x.oneCell'=true
 |_,_,.nil,_=>by simp
 |_,_,.cons h hs,hx=>by
  simp only[mK,B9]at hx;intro x hm;rcases List.mem_cons.1 hm with rfl|hm;· exact h.oneCell hx.1
  ·exact aA4 hs hx.2 x hm
theorem cF.splice{ρ:Map}{cs cs' vs vs':List V9}(h:cF ρ cs cs')(g:cF ρ vs vs')(off:Nat):cF ρ (splice cs off vs) (splice cs' off vs'):=by unfold Vm.splice;rw[g.length];exact(h.take off).append (g.append (h.drop _))
theorem rK(b:Nat):∀(vs:List V9)(o:Nat)(w:W9)(arr:Array V9)(ty:I9)(fz:Nat×Nat),w.heap[b]?=some (.cells arr ty fz)->
  (w.setCells b o vs).heap[b]?=some (.cells (vs.zipIdx.foldl (λa x=>a.setIfInBounds (o+x.2) x.1) arr) ty fz)/\(∀b':Nat,b'≠b->(w.setCells b o vs).heap[b']?=w.heap[b']?)/\
  (w.setCells b o vs).heap.size=w.heap.size/\(w.setCells b o vs).os=w.os/\(w.setCells b o vs).tape=w.tape/\(w.setCells b o vs).output=w.output
 |[],o,w,arr,ty,fz,h=>⟨by simpa[W9.setCells] using h,λ_ _=>rfl,rfl,rfl,rfl,rfl⟩
 |v::r,o,w,arr,ty,fz,h=>by
  have h1:(w.setCell ⟨b,o,none⟩ v).heap[b]?=some (.cells (arr.setIfInBounds o v) ty fz):=by simp[W9.setCell,Array.getElem?_modify,h]
  obtain⟨g1,g2,g3,g4,g5,g6⟩:=rK b r (o+1) _ _ _ _ h1;refine⟨?_,λb' hb'=>?_,?_,g4,g5,g6⟩;· rw[W9.setCells,g1];congr 2;rw[List.zipIdx_cons,List.foldl_cons];simp only[Nat.add_zero,Nat.zero_add];rw[List.zipIdx_succ,List.foldl_map];congr 1;funext a x;obtain⟨x1,x2⟩:=x;simp only;congr 1;omega
  ·rw[W9.setCells,g2 b' hb'];simp only[W9.setCell,Array.getElem?_modify];rw[if_neg (by simpa using Ne.symm hb')]
  ·rw[W9.setCells,g3];simp
theorem qZ(vs:List V9):∀(o:Nat)(arr:Array V9)(i:Nat),(vs.zipIdx.foldl (λa x=>a.setIfInBounds (o+x.2) x.1) arr)[i]? =
  if o<=i/\i<o+vs.length/\i<arr.size then vs[i-o]? else arr[i]?:=by
 induction vs with
 |nil=>intro o arr i;simp;intro h;omega
 |cons v r ih=>
  intro o arr i;have:(((v::r).zipIdx).foldl (λa x=>a.setIfInBounds (o+x.2) x.1) arr)=(r.zipIdx.foldl (λa x=>a.setIfInBounds (o+1+x.2) x.1) (arr.setIfInBounds o v)):=by rw[List.zipIdx_cons,List.foldl_cons];simp only[Nat.add_zero,Nat.zero_add];rw[List.zipIdx_succ,List.foldl_map];congr 1;funext a x;obtain⟨x1,x2⟩:=x;simp only;congr 1;omega
  rw[this,ih];simp only[Array.size_setIfInBounds,List.length_cons];by_cases h1:o+1<=i/\i<o+1+r.length/\i<arr.size;· rw[if_pos h1,if_pos (by omega)];rw[show i-o=(i-(o+1))+1 by omega];simp
  ·rw[if_neg h1];by_cases h2:i=o
   ·subst h2;by_cases h3:i<arr.size
    ·rw[if_pos (by omega)];simp[h3]
    ·rw[if_neg (by omega)];simp[h3]
   ·rw[if_neg (by omega),Array.getElem?_setIfInBounds_ne (Ne.symm h2)]
def aT2{R:Type}(P:Q9)(lo:Nat)(H:AH)(t:I9)(ad:Addr)(v:V9)(k:AH->Option R):Option R:=
 match aCg ad.block H.objs with
 |some (.cells cs sz)=>
  bif Nat.ble lo ad.block&&N9 v.cells.toList.length (P.cellsOf t) && !N9 (P.cellsOf t) 0&&Nat.ble (ad.off+v.cells.toList.length) cs.length&&mK v.cells.toList&&ad.spot.isNone then
   k (H.put ad.block (.cells (splice cs ad.off v.cells.toList) sz))
  else none
 |_=>none
theorem aB0{cs vs:List V9}{off i:Nat}(hl:off+vs.length<=cs.length):
  (splice cs off vs)[i]?=if off<=i/\i<off+vs.length then vs[i-off]? else cs[i]?:=by
 have h1:(cs.take off).length=off:=by simp;omega
 unfold splice;by_cases ha:i<off;· rw[if_neg (by omega),List.getElem?_append_left (by omega),List.getElem?_take,if_pos ha]
 ·rw[List.getElem?_append_right (by omega),h1];by_cases hb:i<off+vs.length
  ·rw[if_pos (by omega),List.getElem?_append_left (by omega)]
  ·rw[if_neg (by omega),List.getElem?_append_right (by omega),List.getElem?_drop];congr 1;omega
theorem rL{cs vs:List V9}{off:Nat}(hl:off+vs.length<=cs.length):(splice cs off vs).length=cs.length:=by simp[splice];omega
theorem tK(vs:List V9)(o:Nat)(arr:Array V9):(vs.zipIdx.foldl (λa x=>a.setIfInBounds (o+x.2) x.1) arr).size=arr.size:=by
 generalize vs.zipIdx=l;induction l generalizing arr with
 |nil=>rfl
 |cons x r ih=>rw[List.foldl_cons,ih];simp
theorem aNd{R:Type}{P:Q9}{lo:Nat}{H:AH}{t:I9}{ad:Addr}{v:V9}{k:AH->Option R}{r:R}(h:aT2 P lo H t ad v k=some r):
  ∃H',k H'=some r/\∀{ρ:Map}{w:W9}{ad':Addr}{v':V9},Inv ρ H w->dW ρ (.pointer (some ad)) (.pointer (some ad'))->dW ρ v v'->
   ∃w',(storeVar t ad' v').run P w=.ok () w'/\Next lo ρ H w ρ H' w':=by
 unfold aT2 at h;split at h
 ·rename_i cs sz hl;cases hc:(Nat.ble lo ad.block&&N9 v.cells.toList.length (P.cellsOf t) && !N9 (P.cellsOf t) 0&&Nat.ble (ad.off+v.cells.toList.length) cs.length&&mK v.cells.toList&&ad.spot.isNone) with
  |false=>rw[hc]at h;cases h
  |true=>
   rw[hc]at h;simp only[T7]at h;simp only[B9,Nat.ble_eq,Nat.beq_eq,Bool.not_eq_true']at hc;obtain⟨⟨⟨⟨⟨h1,h2⟩,h3⟩,h4⟩,h5⟩,h6⟩:=hc;have hm:=kS hl;refine⟨_,h,λ{ρ w ad' v'} hi hp hv=>?_⟩;cases hp with
   |ptr hk=>
    rename_i kb o s;simp only at *
    obtain⟨s2,e1,e2⟩:=hi.rel.obj kb _ hm;rw[hk]at e1;obtain rfl:s=s2:=by simpa using e1
    obtain⟨arr,ty,cs',hlies,hr,hcc,hext,hx0⟩:=e2;obtain⟨⟨fr,hb⟩,hz0⟩:=id hlies;have hcl:=hv.cells;have hlen:=hcl.length;have hcslen:=hr.length;have hone:=aA4 hcl h5;have hcell:∀i,i<cs.length->∃u,arr[s.d+i]?=some u:=λi hi=>by
     have hlt:i<cs'.length:=by omega
     exact⟨cs'[i],hcc i _ (by simp[hlt])⟩
    have hz:P.cellsOf t≠0:=λe=>by simp[e]at h3
    have hst:=run_storeCells_cells (P:=P) s.b (s.d+o) v'.cells.toList 0 w (λj hj=>by
      obtain⟨u,hu⟩:=hcell (o+j) (by omega);rw[show s.d+o+0+j=s.d+(o+j) by omega];simp[W9.cell?,hb,hu]) (λj hj=>by
      rw[show s.d+o+0+j=s.d+(o+j) by omega];exact hz0 _ (by omega)) hone
    simp only[Nat.add_zero]at hst;obtain⟨g1,g2,g3,g4,g5,g6⟩:=rK s.b v'.cells.toList (s.d+o) w arr ty fr hb;refine⟨w.setCells s.b (s.d+o) v'.cells.toList,?_,Next.write hi hm h1 hk _ g3 g4 g5 g6 g2 ⟨_,ty,splice cs' o v'.cells.toList,hlies.put hb g1 rfl (by rw[rL (by omega)];exact L9 _),?_,λi u hu=>?_,?_,hx0⟩⟩
    ·have hi':=uX hz;cases hq:P.info? t with
     |none=>simp[hq]at hi'
     |some inf=>
      have hs:v'.cells.size=inf.size:=by
       simp[hq]at hi';have:v'.cells.toList.length=v'.cells.size:=by simp
       omega
      simp[storeVar,sizeOf,typeInfo,hq,hs,hst]
    ·exact hr.splice hcl o
    ·rw[aB0 (by omega)]at hu;rw[qZ];split at hu
     ·rename_i hin;have:s.d+i<arr.size:=by obtain⟨u',hu'⟩:=hcell i (by omega);exact(Array.getElem?_eq_some_iff.1 hu').1
      rw[if_pos (by omega),show s.d+i-(s.d+o)=i-o by omega];exact hu
     ·rename_i hout;rw[if_neg (by omega)];exact hcc i u hu
    ·rw[rL (by omega),tK];exact hext
 ·cases h
def aS5(e:Env):List Y9->Option (List V9)
 |[]=>some []
 |x::r=>(opd e x).bind λv=>(aS5 e r).bind λvs=>some (v::vs)
theorem rJ{ρ:Map}{e:Env}{a:Act}(he:fW ρ e a.tmps):∀{xs:List Y9}{vs:List V9},aS5 e xs=some vs->cF ρ vs (xs.map a.eval)
 |[],vs,h=>by simp[aS5]at h;subst h;exact .nil
 |x::r,vs,h=>by obtain⟨v,h1,h⟩:=aB h;obtain⟨us,h2,h⟩:=aB h;cases h;exact .cons (cZ he h1) (rJ he h2)
def aE7:Op->Bool
 |.select ..=>false
 |_=>true
def zE{R:Type}(P:Q9)(e:Env)(H:AH)(o:X9)(k:V9->AH->Option R):Option R:=
 (aS5 e o.op.operands.toList).bind λvs=>
  bif kZ 0 vs&&aE7 o.op then
   match calm P (G9 (λx=>(opd e x).getD undef) o) with
   |some (.value v)=>bif flat v then k v H else none
   |_=>none
  else none
theorem aS6{e:Env}:∀{xs:List Y9}{vs:List V9},aS5 e xs=some vs->∀x∈xs,∃v,opd e x=some v/\v∈vs
 |[],_,_,x,hx=>by simp at hx
 |y::r,vs,h,x,hx=>by
  obtain⟨v,h1,h⟩:=aB h;obtain⟨us,h2,h⟩:=aB h;cases h;rcases List.mem_cons.1 hx with rfl|hx;· exact⟨v,h1,by simp⟩
  ·obtain⟨u,g1,g2⟩:=aS6 h2 x hx;exact⟨u,g1,by simp[g2]⟩
theorem aR9{n:Nat}:∀{vs:List V9},kZ n vs=true->∀v∈vs,inn n v=true
 |[],_,v,hv=>by simp at hv
 |u::r,h,v,hv=>by
  simp only[kZ,B9]at h;rcases List.mem_cons.1 hv with rfl|hv;· exact h.1
  ·exact aR9 h.2 v hv
theorem aLh{R:Type}{P:Q9}{lo:Nat}{e:Env}{H:AH}{o:X9}{k:V9->AH->Option R}{r:R}(h:zE P e H o k=some r):
  ∃v H',k v H'=some r/\∀{ρ:Map}{w:W9}{a:Act},Inv ρ H w->lo<=H.next->fW ρ e a.tmps->lO P lo o a ρ H w v H':=by
 unfold zE at h;obtain⟨vs,h1,h⟩:=aB h;cases hc:(kZ 0 vs&&aE7 o.op) with
 |false=>rw[hc]at h;cases h
 |true=>
  rw[hc]at h;simp only[T7]at h;simp only[B9]at hc;split at h
  ·rename_i v hcalm;cases hf:flat v with
   |false=>rw[hf]at h;cases h
   |true=>
    rw[hf]at h;simp only[T7]at h;refine⟨v,H,h,λ{ρ w a} hi _ he=>?_⟩;have hcong:G9 a.eval o=G9 (λx=>(opd e x).getD undef) o:=by
     refine execOp_congr o (λcs b e=>?_) λx hx=>?_
     ·rw[e]at hc;simp[aE7]at hc
     ·obtain⟨u,g1,g2⟩:=aS6 h1 x (by simpa using hx);have:=(cZ he g1).flat_eq (aR9 hc.1 u g2);simp[g1,this]
    exact lO.calm hi (by rw[hcong];exact bV hcalm w) (dW.ofFlat ρ hf)
  ·cases h
def bY7(op:BinOp)(x y:Nat):Option Bool:=
 match op with
 |.eql=>some (aBq x y==some .eq)
 |.neq=>some (aBq x y != some .eq)
 |.lss=>some (aBq x y==some .lt)
 |.leq=>some (aBq x y==some .lt||aBq x y==some .eq)
 |.gtr=>some (aBq x y==some .gt)
 |.geq=>some (aBq x y==some .gt||aBq x y==some .eq)
 |_=>none
def bZm(op:BinOp)(x y:Int):Option Bool:=
 match op with
 |.eql=>some (x==y)
 |.neq=>some (x != y)
 |.lss=>some (decide (x<y))
 |.leq=>some (decide (x<=y))
 |.gtr=>some (decide (x>y))
 |.geq=>some (decide (x≥y))
 |_=>none
def aY0(op:BinOp)(k:K9)(x y:Int):Option Int:=
 match op with
 |.add=>some (k.wrap (x+y))
 |.sub=>some (k.wrap (x-y))
 |.mul=>some (k.wrap (x*y))
 |.rem=>bif y==0 then none else some (x.tmod y)
 |.quo=>bif y==0 then none else some (k.wrap (x.tdiv y))
 |_=>none
def aJb:BinOp->Bool
 |.add | .sub | .mul | .quo=>true
 |_=>false
def bEi:BinOp->Bool
 |.eql | .neq | .lss | .leq | .gtr | .geq=>true
 |_=>false
def bW8{R:Type}(fi:Fi)(op:BinOp)(x y:V9)(k:KVO R)(other:Option R):Option R:=
 match x,y with
 |.float .f64 a,.float .f64 b=>
  bif aJb op then aM (fbF op a b) λn=>k (.float .f64 n)
  else(bY7 op a b).bind λt=>aW t λt=>k (.bool t)
 |.int ka a,.int kb b=>
  bif decide (ka=kb)&&(aJb op||bEi op||decide (op=.rem)) then
   bif bEi op then(bZm op a b).bind λt=>aW t λt=>k (.bool t)
   else(aY0 op ka a b).bind λn=>fi R n λn=>k (.int ka n)
  else other
 |.complex .f64 a b,.complex .f64 c d=>
  match op with
  |.add | .sub=>aM (fbF op a c) λre=>aM (fbF op b d) λim=>k (.complex .f64 re im)
  |.eql=>aW (aBq a c==some .eq) λs=>aW (aBq b d==some .eq) λt=>k (.bool (s&&t))
  |.neq=>aW (aBq a c==some .eq) λs=>aW (aBq b d==some .eq) λt=>k (.bool !(s&&t))
  |_=>other
 |_,_=>other
theorem lT{P:Q9}{w:W9}{op:BinOp}{t:I9}{x y:Y9}{u v:V9}(hu:(match u with | .nilIface | .agg _=>false|_=>true)=true):(eqGuard op t x y u v).run P w=.ok () w:=by cases u<;>simp only[Bool.false_eq_true]at hu<;>(unfold eqGuard;cases op<;>rfl)
theorem aKi{P:Q9}{w:W9}{op:BinOp}{t:I9}{k:K9}{x y n:Int}(h:aY0 op k x y=some n):
  (binOp op t (.int k x) (.int k y)).run P w=.ok (.int k n) w:=by
 unfold aY0 at h;split at h;· cases h;simp[binOp,Op.intArith]
 ·cases h;simp[binOp,Op.intArith]
 ·cases h;simp[binOp,Op.intArith]
 ·cases hy:(y==0) with
  |true=>rw[hy]at h;cases h
  |false=>
   rw[hy]at h;cases h;have:y≠0:=by simpa using hy
   simp[binOp,Op.intDiv,this]
 ·cases hy:(y==0) with
  |true=>rw[hy]at h;cases h
  |false=>
   rw[hy]at h;cases h;have:y≠0:=by simpa using hy
   simp[binOp,Op.intDiv,this]
 ·cases h
theorem aP2{P:Q9}{w:W9}{op:BinOp}{t:I9}{k:K9}{x y:Int}{n:Bool}(h:bZm op x y=some n):
  (binOp op t (.int k x) (.int k y)).run P w=.ok (.bool n) w:=by
 unfold bZm at h;split at h<;>first|(cases h;simp[binOp,Op.intCmp];done)|cases h
theorem aFl{P:Q9}(w:W9)(t:I9)(a b c d:Nat):
  (binOp .eql t (.complex .f64 a b) (.complex .f64 c d)).run P w=.ok (.bool ((aBq a c==some .eq)&&(aBq b d==some .eq))) w:=by
 rw[wK,wK];simp[binOp,Op.complexOp,Op.Complex.cmp,Op.floatCmp,asBool];rfl
theorem aFm{P:Q9}(w:W9)(t:I9)(a b c d:Nat):
  (binOp .neq t (.complex .f64 a b) (.complex .f64 c d)).run P w=.ok (.bool !((aBq a c==some .eq)&&(aBq b d==some .eq))) w:=by
 rw[wK,wK];simp[binOp,Op.complexOp,Op.Complex.cmp,Op.floatCmp,asBool];rfl
theorem aKh{P:Q9}{w:W9}{op:BinOp}{t:I9}{x y:Nat}{n:Bool}(h:bY7 op x y=some n):
  (binOp op t (.float .f64 x) (.float .f64 y)).run P w=.ok (.bool n) w:=by
 unfold bY7 at h;simp only[wK]at h;split at h<;>first|(cases h;simp[binOp,Op.floatCmp];done)|(cases h;simp only[binOp,Op.floatCmp];rfl)|cases h
theorem aUk{R:Type}{P:Q9}{op:BinOp}{t:I9}{ox oy:Y9}{x y:V9}{k:V9->Option R}{other:Option R}{r:R}{fi:Fi}(hfi:fi.Fair)(h:bW8 fi op x y k other=some r):
  other=some r\/∃v,k v=some r/\flat v=true/\∀{ρ:Map}{w:W9}{x' y':V9},dW ρ x x'->dW ρ y y'->((do eqGuard op t ox oy x' y';binOp op t x' y'):Sem V9).run P w=.ok v w:=by
 unfold bW8 at h;split at h
 ·rename_i a b;cases ha:aJb op with
  |true=>rw[ha]at h;obtain⟨n,h1,h2⟩:=lG h;refine .inr ⟨_,h2,rfl,λ{ρ w x' y'} hx hy=>?_⟩;cases hx;cases hy;rw[Sem.run_bind,lT rfl];exact run_float_arith w op t .f64 a b n (by rw[<-tV];exact h1)
  |false=>rw[ha]at h;obtain⟨n,h1,h2⟩:=aB h;rw[aJ]at h2;refine .inr ⟨_,h2,rfl,λ{ρ w x' y'} hx hy=>?_⟩;cases hx;cases hy;rw[Sem.run_bind,lT rfl];exact aKh h1
 ·rename_i ka a kb b;cases hc:(decide (ka=kb)&&(aJb op||bEi op||decide (op=.rem))) with
  |false=>rw[hc]at h;exact .inl h
  |true=>
   rw[hc]at h;simp only[B9,decide_eq_true_eq]at hc;obtain⟨rfl,_⟩:=hc;simp only[T7]at h;cases hcm:bEi op with
   |true=>rw[hcm]at h;obtain⟨n,h1,h2⟩:=aB h;rw[aJ]at h2;refine .inr ⟨_,h2,rfl,λ{ρ w x' y'} hx hy=>?_⟩;cases hx;cases hy;rw[Sem.run_bind,lT rfl];exact aP2 h1
   |false=>rw[hcm]at h;obtain⟨n,h1,h2⟩:=aB h;rw[hfi]at h2;refine .inr ⟨_,h2,rfl,λ{ρ w x' y'} hx hy=>?_⟩;cases hx;cases hy;rw[Sem.run_bind,lT rfl];exact aKi h1
 ·rename_i a b c d;split at h
  ·obtain⟨n,h1,h⟩:=lG h;obtain⟨m,h2,h⟩:=lG h;refine .inr ⟨_,h,rfl,λ{ρ w x' y'} hx hy=>?_⟩;cases hx;cases hy;rw[Sem.run_bind,lT rfl];exact run_complex_sum w .add (.inl rfl) t .f64 a b c d n m (by rw[tV]at h1 h2;simp[cSumBits,h1,h2])
  ·obtain⟨n,h1,h⟩:=lG h;obtain⟨m,h2,h⟩:=lG h;refine .inr ⟨_,h,rfl,λ{ρ w x' y'} hx hy=>?_⟩;cases hx;cases hy;rw[Sem.run_bind,lT rfl];exact run_complex_sum w .sub (.inr rfl) t .f64 a b c d n m (by rw[tV]at h1 h2;simp[cSumBits,h1,h2])
  ·rw[aJ,aJ]at h;refine .inr ⟨_,h,rfl,λ{ρ w x' y'} hx hy=>?_⟩;cases hx;cases hy;rw[Sem.run_bind,lT rfl];exact aFl (P:=P) w t a b c d
  ·rw[aJ,aJ]at h;refine .inr ⟨_,h,rfl,λ{ρ w x' y'} hx hy=>?_⟩;cases hx;cases hy;rw[Sem.run_bind,lT rfl];exact aFm (P:=P) w t a b c d
  ·exact .inl h
 ·exact .inl h
def aOl(place:Nat->Option (Nat×Nat))(cs:List V9):List (Nat×V9)->Option (List V9)
 |[]=>some cs
 |(i,v)::rest=>
  match place i with
  |none=>none
  |some (off,size)=>
   bif N9 v.cells.toList.length size&&Nat.ble (off+v.cells.toList.length) cs.length then aOl place (splice cs off v.cells.toList) rest else none
theorem aYi(off:Nat)(cells vs:Array V9)(h:off+vs.size<=cells.size):
  vs.zipIdx.foldl (λcs (c,j)=>cs.setIfInBounds (off+j) c) cells=⟨splice cells.toList off vs.toList⟩:=by
 apply Array.ext';apply List.ext_getElem?;intro i;have:(vs.zipIdx.foldl (λ(cs:Array V9)(x:V9×Nat)=>cs.setIfInBounds (off+x.2) x.1) cells)=(vs.toList.zipIdx.foldl (λa x=>a.setIfInBounds (off+x.2) x.1) cells):=by rw[<-Array.foldl_toList,Array.toList_zipIdx]
 have e:(vs.zipIdx.foldl (λcs (c,j)=>cs.setIfInBounds (off+j) c) cells)=(vs.zipIdx.foldl (λ(cs:Array V9)(x:V9×Nat)=>cs.setIfInBounds (off+x.2) x.1) cells):=rfl;rw[e,this,Array.getElem?_toList,qZ,aB0 (by simpa using h)];simp only[Array.length_toList,Array.getElem?_toList];by_cases h1:off<=i/\i<off+vs.size;· rw[if_pos (by omega),if_pos h1]
 ·rw[if_neg (by omega),if_neg h1]
inductive aNw(ρ:Map):List (Nat×V9)->List (Nat×V9)->Prop
 |nil:aNw ρ [] []
 |cons (i:Nat) {v v':V9} {r r':List (Nat×V9)} (h:dW ρ v v') (hs:aNw ρ r r'):aNw ρ ((i,v)::r) ((i,v')::r')
theorem aC8{ρ:Map}{place:Nat->Option (Nat×Nat)}:∀{parts parts':List (Nat×V9)}{cs:List V9}{cells':Array V9}{res:List V9},aNw ρ parts parts'->cF ρ cs cells'.toList->
  aOl place cs parts=some res->∃res':Array V9,Instr.fill place cells' parts'=some res'/\cF ρ res res'.toList
 |_,_,cs,cells',res,.nil,hc,h=>by simp[aOl]at h;subst h;exact⟨cells',rfl,hc⟩
 |_,_,cs,cells',res,.cons i (v:=v) (v':=v') hv hs,hc,h=>by
  unfold aOl at h;unfold Instr.fill;cases hp:place i with
  |none=>simp[hp]at h
  |some p=>
   obtain⟨off,size⟩:=p;simp only[hp]at h⊢;cases hb:(N9 v.cells.toList.length size&&Nat.ble (off+v.cells.toList.length) cs.length) with
   |false=>rw[hb]at h;cases h
   |true=>
    rw[hb]at h;simp only[T7]at h;simp only[B9,Nat.beq_eq,Nat.ble_eq]at hb;have h1:=hv.cells;have h2:=h1.length;have h3:=hc.length;have e1:v'.cells.size=size:=by
     have:v'.cells.toList.length=v'.cells.size:=by simp
     omega
    have e2:off+v'.cells.size<=cells'.size:=by
     have:cells'.toList.length=cells'.size:=by simp
     have:v'.cells.toList.length=v'.cells.size:=by simp
     omega
    have hno:(decide (v'.cells.size≠size)||decide (off+v'.cells.size>cells'.size))=false:=by simp[e1];omega
    rw[hno];simp only[Bool.false_eq_true,if_false];rw[aYi off cells' v'.cells e2];exact aC8 hs (hc.splice h1 off) h
def aMt(e:Env):List (Nat×Y9)->Option (List (Nat×V9))
 |[]=>some []
 |(i,x)::r=>(opd e x).bind λv=>(aMt e r).bind λvs=>some ((i,v)::vs)
theorem aBr{ρ:Map}{e:Env}{a:Act}(he:fW ρ e a.tmps):∀{xs:List (Nat×Y9)}{vs:List (Nat×V9)},aMt e xs=some vs->aNw ρ vs (xs.map λ(i,x)=>(i,a.eval x))
 |[],vs,h=>by simp[aMt]at h;subst h;exact .nil
 |(i,x)::r,vs,h=>by obtain⟨v,h1,h⟩:=aB h;obtain⟨us,h2,h⟩:=aB h;cases h;exact .cons i (cZ he h1) (aBr he h2)
def bFl(P:Q9)(fields:Array Field):Option (Array (Nat×Nat)):=calm P (fields.mapM λf=>do pure (f.offset,<-sizeOf f.type))
def aW6{R:Type}(P:Q9)(t:I9)(parts:List (Nat×V9))(k:KVO R):Option R:=
 (calm P (zeroValue t)).bind λz=>
  bif flat z then
   match P.underlying t with
   |some (.struct fields)=>(bFl P fields).bind λplaces=>(aOl (λi=>places[i]?) z.cells.toList parts).bind λcs=>k (.agg ⟨cs⟩)
   |some (.array _ elem)=>(calm P (sizeOf elem)).bind λsize=>(aOl (λi=>some (i*size,size)) z.cells.toList parts).bind λcs=>k (.agg ⟨cs⟩)
   |_=>none
  else none
theorem tX{v:V9}(h:flat v=true)(ρ:Map):cF ρ v.cells.toList v.cells.toList:=(dW.ofFlat ρ h).cells
theorem aLe{R:Type}{P:Q9}{t:I9}{parts:List (Nat×V9)}{k:V9->Option R}{r:R}(h:aW6 P t parts k=some r):
  ∃v,k v=some r/\∀{ρ:Map}{w:W9}{parts':List (Nat×V9)},aNw ρ parts parts'->∃v',(Instr.build t parts'.toArray).run P w=.ok v' w/\dW ρ v v':=by
 unfold aW6 at h;obtain⟨z,h1,h⟩:=aB h;cases hf:flat z with
 |false=>rw[hf]at h;cases h
 |true=>
  rw[hf]at h;simp only[T7]at h;have hz:=bV h1;split at h;· rename_i fields hu;obtain⟨places,h2,h⟩:=aB h;obtain⟨cs,h3,h⟩:=aB h;refine⟨_,h,λ{ρ w parts'} hp=>?_⟩;obtain⟨res',g1,g2⟩:=aC8 hp (tX hf ρ) h3;obtain⟨l⟩:=res';have hpl:=bV (show calm P (fields.mapM λf=>do pure (f.offset,<-sizeOf f.type))=some places from h2);refine⟨.agg ⟨l⟩,?_,.agg g2⟩;unfold Instr.build;simp only[Sem.run_bind,hz,A9 hu,hpl,Result.andThen_ok,g1,Sem.run_pure]
  ·rename_i n elem hu;obtain⟨size,h2,h⟩:=aB h;obtain⟨cs,h3,h⟩:=aB h;refine⟨_,h,λ{ρ w parts'} hp=>?_⟩;obtain⟨res',g1,g2⟩:=aC8 hp (tX hf ρ) h3;obtain⟨l⟩:=res';refine⟨.agg ⟨l⟩,?_,.agg g2⟩;unfold Instr.build;simp only[Sem.run_bind,hz,A9 hu,bV h2,Result.andThen_ok,g1,Sem.run_pure]
  ·cases h
theorem lO.value{P:Q9}{lo:Nat}{o:X9}{a:Act}{ρ ρ':Map}{H H':AH}{w w':W9}{v v':V9}(hr:(G9 a.eval o).run P w=.ok (.value v') w')(hn:Next lo ρ H w ρ' H' w')(hv:dW ρ' v v'):lO P lo o a ρ H w v H':=
 ⟨ρ',w',v',_,hr,.inl rfl,hn,hv⟩
theorem lO.skip{P:Q9}{lo:Nat}{o:X9}{a:Act}{ρ ρ':Map}{H H':AH}{w w':W9}(hr:(G9 a.eval o).run P w=.ok .skip w')(hn:Next lo ρ H w ρ' H' w'):lO P lo o a ρ H w undef H':=
 ⟨ρ',w',undef,_,hr,.inr ⟨rfl,rfl⟩,hn,.tuple .nil⟩
theorem uR{P:Q9}{lo:Nat}{ρ:Map}{H:AH}{w:W9}(hi:Inv ρ H w)(hlo:lo<=H.next){cs:List V9}{arr:Array V9}(hc:cF ρ cs arr.toList)(t:I9):
  Next lo ρ H w (upd ρ H.next ⟨w.heap.size,0,0⟩) (H.push (.cells cs 0)) (w.alloc (.cells arr t)):=by
 refine Next.alloc hi hlo _ _ 0 ⟨arr,t,arr.toList,?_,hc.mono (aF2 hi _),λi v hv=>by simpa using hv,?_,λ_=>rfl⟩;· refine aV8.fresh ?_ _ _;show(w.heap.push _)[w.heap.size]?=_;simp
 ·have:=hc.length;simp at this⊢;omega
def cAj{R:Type}(H:AH)(cs:List V9)(k:V9->AH->Option R):Option R:=
 k (.pointer (some ⟨H.next,0,none⟩)) (H.push (.cells cs 0))
def aWt{R:Type}(P:Q9)(H:AH)(t:I9)(k:V9->AH->Option R):Option R:=
 (calm P (zeroValue t)).bind λz=>bif flat z then cAj H z.cells.toList k else none
theorem bAr{ρ:Map}{H:AH}{n x:Nat}:dW (upd ρ H.next ⟨n,0,x⟩) (.pointer (some ⟨H.next,0,none⟩)) (.pointer (some ⟨n,0,none⟩)):=
 dW.ptr (s:=⟨n,0,x⟩) (o:=0) (pA _ _ _)
theorem aK5{R:Type}{P:Q9}{lo:Nat}{H:AH}{t:I9}{k:V9->AH->Option R}{r:R}(h:aWt P H t k=some r){o:X9}(ho:o.op=.alloc t):∃v H',k v H'=some r/\∀{ρ:Map}{w:W9}{a:Act},Inv ρ H w->lo<=H.next->lO P lo o a ρ H w v H':=by
 unfold aWt at h;obtain⟨z,h1,h⟩:=aB h;cases hf:flat z with
 |false=>rw[hf]at h;cases h
 |true=>rw[hf]at h;refine⟨_,_,h,λ{ρ w a} hi hlo=>lO.value ?_ (uR (P:=P) hi hlo (tX hf ρ) t) bAr⟩;simp[G9,ho,Instr.alloc,newVar,newRow,bV h1]
theorem aUl{R:Type}{P:Q9}{lo:Nat}{H:AH}{t:I9}{x:Y9}{v:V9}{k:V9->AH->Option R}{r:R}(h:cAj H v.cells.toList k=some r){o:X9}(ho:o.op=.box t x):∃u H',k u H'=some r/\∀{ρ:Map}{w:W9}{a:Act},Inv ρ H w->lo<=H.next->dW ρ v (a.eval x)->lO P lo o a ρ H w u H':=by refine⟨_,_,h,λ{ρ w a} hi hlo hv=>lO.value ?_ (uR (P:=P) hi hlo hv.cells t) bAr⟩;simp[G9,ho,Instr.box,newVar,newRow]
def tM(z:List V9)(n:Nat):List V9:=(List.range n).map λi=>z.getD (i%z.length) default
theorem aM0(z:Array V9)(n:Nat):((Array.range n).map λi=>z[i%z.size]!).toList=tM z.toList n:=by unfold tM;simp[Array.getElem!_eq_getD,List.getD_eq_getElem?_getD]
theorem cF.replicate{ρ:Map}{z:List V9}(hz:cF ρ z z)(n:Nat):cF ρ (tM z n) (tM z n):=by
 unfold tM;generalize List.range n=l;induction l with
 |nil=>exact .nil
 |cons i r ih=>
  refine .cons ?_ ih;show dW ρ (z.getD (i%z.length) default) (z.getD (i%z.length) default);rw[List.getD_eq_getElem?_getD];cases hq:z[i%z.length]? with
  |none=>exact .bool _
  |some v=>obtain⟨v',h1,h2⟩:=hz.get _ hq;rw[hq]at h1;cases h1;exact h2
def yE{R:Type}(P:Q9)(H:AH)(t:I9)(len:Nat)(parts:List (Nat×V9))(k:V9->AH->Option R):Option R:=
 match P.underlying t with
 |some (.slice elem)=>
  (calm P (sizeOf elem)).bind λsize=>(calm P (zeroValue elem)).bind λz=>
   bif flat z&&Nat.ble (len*size) 16777216 && !N9 (len*size) 0 then
    (aOl (λi=>some (i*size,size)) (tM z.cells.toList (len*size)) parts).bind λcs=>
     k (.slice (some ⟨H.next,0,none⟩) len len) (H.push (.cells cs 0))
   else none
 |_=>none
theorem bBe{ρ:Map}{H:AH}{n l:Nat}:dW (upd ρ H.next ⟨n,0,0⟩) (.slice (some ⟨H.next,0,none⟩) l l) (.slice (some ⟨n,0,none⟩) l l):=
 dW.slice (s:=⟨n,0,0⟩) (o:=0) (pA _ _ _)
theorem aA7{R:Type}{P:Q9}{lo:Nat}{H:AH}{t:I9}{len:Nat}{xs:Array (Nat×Y9)}{parts:List (Nat×V9)}{k:V9->AH->Option R}{r:R}(h:yE P H t len parts k=some r){o:X9}(ho:o.op=.buildSlice t len xs):
  ∃v H',k v H'=some r/\∀{ρ:Map}{w:W9}{a:Act},Inv ρ H w->lo<=H.next->aNw ρ parts (xs.toList.map λ(i,x)=>(i,a.eval x))->lO P lo o a ρ H w v H':=by
 unfold yE at h;split at h
 ·rename_i elem hu;obtain⟨size,h1,h⟩:=aB h;obtain⟨z,h2,h⟩:=aB h;cases hc:(flat z&&Nat.ble (len*size) 16777216 && !N9 (len*size) 0) with
  |false=>rw[hc]at h;cases h
  |true=>
   rw[hc]at h;simp only[T7]at h;obtain⟨cs,h3,h⟩:=aB h;simp only[B9,Nat.ble_eq,Bool.not_eq_true']at hc;obtain⟨⟨hf,hb⟩,hz⟩:=hc;have hz':len*size≠0:=λe=>by rw[e]at hz;cases hz
   refine⟨_,_,h,λ{ρ w a} hi hlo hp=>?_⟩;have hzc:=tX hf ρ;obtain⟨res',g1,g2⟩:=aC8 (cells':=(Array.range (len*size)).map λi=>z.cells[i%z.cells.size]!) hp (by rw[aM0];exact cF.replicate hzc _) h3;refine lO.value ?_ (uR (P:=P) hi hlo g2 elem) bBe;have e1:(xs.map λ(i,x)=>(i,a.eval x)).toList=xs.toList.map λ(i,x)=>(i,a.eval x):=by simp
   simp only[G9,ho,Instr.buildSlice,Sem.run_bind,A9 hu,Result.andThen_ok,bV h1,bV h2];rw[if_neg (by have:=Nat.pow_le_pow_right (n:=2) (by decide) (L9 24);omega),if_neg hz'];simp only[Sem.run_bind,bV h2,Result.andThen_ok,Sem.run_pure,e1,g1,newRow,run_newObj];rfl
 ·cases h
theorem qH{n:Int}(h1:-9223372036854775808<=n)(h2:n<=9223372036854775807):K9.i64.wrap n=n:=IntWalk.i64_in n ⟨by omega,by omega⟩
def aBn{R:Type}(P:Q9)(H:AH)(t:I9)(l c:V9)(k:V9->AH->Option R):Option R:=
 match P.underlying t,l,c with
 |some (.slice elem),.int _ l,.int _ c=>
  (calm P (typeInfo elem)).bind λinfo=>(calm P (sizeOf elem)).bind λsize=>(calm P (zeroValue elem)).bind λz=>
   bif flat z&&decide (0<=l)&&decide (l<=c)&&decide (c<=4294967296)&&decide (info.bytes*c<=281474976710656) then
    k (.slice (some ⟨H.next,0,none⟩) l.toNat c.toNat) (H.push (.cells (tM z.cells.toList (c.toNat*size)) 0))
   else none
 |_,_,_=>none
theorem aCz{R:Type}{P:Q9}{lo:Nat}{H:AH}{t:I9}{xl xc:Y9}{l c:V9}{k:V9->AH->Option R}{r:R}(h:aBn P H t l c k=some r){o:X9}(ho:o.op=.makeSlice t xl xc):
  ∃v H',k v H'=some r/\∀{ρ:Map}{w:W9}{a:Act},Inv ρ H w->lo<=H.next->dW ρ l (a.eval xl)->dW ρ c (a.eval xc)->lO P lo o a ρ H w v H':=by
 unfold aBn at h;split at h
 ·rename_i elem kl l kc c hu;obtain⟨info,h0,h⟩:=aB h;obtain⟨size,h1,h⟩:=aB h;obtain⟨z,h2,h⟩:=aB h;cases hc:(flat z&&decide (0<=l)&&decide (l<=c)&&decide (c<=4294967296)&&decide (info.bytes*c<=281474976710656)) with
  |false=>rw[hc]at h;cases h
  |true=>
   rw[hc]at h;simp only[T7]at h;simp only[B9,decide_eq_true_eq]at hc;obtain⟨⟨⟨⟨hf,g1⟩,g2⟩,g3⟩,g4⟩:=hc;refine⟨_,_,h,λ{ρ w a} hi hlo hl hcp=>?_⟩;have hnew:=uR (P:=P) (lo:=lo) (arr:=(Array.range (c.toNat*size)).map λi=>z.cells[i%z.cells.size]!) (cs:=tM z.cells.toList (c.toNat*size)) hi hlo
    (by rw[aM0];exact cF.replicate (tX hf ρ) _) elem
   refine lO.value ?_ hnew (dW.slice (s:=⟨w.heap.size,0,0⟩) (o:=0) (pA _ _ _));generalize hel:a.eval xl=l' at *
   generalize hec:a.eval xc=c' at *
   cases hl;cases hcp;simp only[G9,ho,Instr.makeSlice,hel,hec,Sem.run_bind,A9 hu,Result.andThen_ok,asInt,asIntOf,Sem.run_pure,bV h0,bV h1,bV h2,
    qH (n:=l) (by omega) (by omega),qH (n:=c) (by omega) (by omega)]
   have t1:(decide (c<0)||decide ((info.bytes:Int)*c>2^48))=false:=by simp only[Bool.or_eq_false_iff,decide_eq_false_iff_not];omega
   have t2:((decide (c<0)||decide ((info.bytes:Int)*c>2^48))||decide (l<0)||decide (l>c))=false:=by rw[t1];simp only[Bool.false_or,Bool.or_eq_false_iff,decide_eq_false_iff_not];omega
   rw[t2];by_cases hz':c.toNat*size=0
   ·simp only[Bool.false_eq_true,if_false,Sem.run_bind,run_askRoom,Result.andThen_ok,bV h1,if_pos hz',Sem.run_pure,newRow,run_newObj];have e0:∀f g:Nat->V9,(Array.range (c.toNat*size)).map f=(Array.range (c.toNat*size)).map g:=λf g=>by rw[hz'];exact Array.ext (by simp) λi h _=>by simp at h
    rw[e0 _ λi=>z.cells[i%z.cells.size]!];rfl
   simp only[Bool.false_eq_true,if_false,Sem.run_bind,run_askRoom,Result.andThen_ok,bV h1,if_neg hz',bV h2,Sem.run_pure,newRow,run_newObj];rfl
 ·cases h
def aBb{R:Type}(P:Q9)(s:I9)(x:V9)(f:Nat)(k:KVO R):Option R:=
 match x,P.underlying s with
 |.pointer (some ad),some (.struct fields)=>
  match fields[f]? with
  |some fd=>(calm P (sizeOf fd.type)).bind λn=>bif !N9 n 0&&ad.spot.isNone then k (.pointer (some ⟨ad.block,ad.off+fd.offset,none⟩)) else none
  |none=>none
 |_,_=>none
theorem uQ(b o n:Nat):(⟨b,o,none⟩:Addr).add n=⟨b,o+n,none⟩:=by unfold Addr.add;split<;>simp_all
theorem aCv{R:Type}{P:Q9}{lo:Nat}{H:AH}{s:I9}{x:V9}{xo:Y9}{f:Nat}{k:V9->Option R}{r:R}(h:aBb P s x f k=some r){o:X9}(ho:o.op=.fieldAddr s xo f):∃v,k v=some r/\∀{ρ:Map}{w:W9}{a:Act},Inv ρ H w->dW ρ x (a.eval xo)->lO P lo o a ρ H w v H:=by
 unfold aBb at h;split at h
 ·rename_i ad fields hu;split at h
  ·rename_i fd hfd;obtain⟨n,h1,h⟩:=aB h;cases hc:(!N9 n 0&&ad.spot.isNone) with
   |false=>rw[hc]at h;cases h
   |true=>
    rw[hc]at h;simp only[T7]at h;simp only[B9,Bool.not_eq_true']at hc;have hn:n≠0:=λe=>by rw[e]at hc;cases hc.1
    refine⟨_,h,λ{ρ w a} hi hx=>?_⟩;generalize he:a.eval xo=x' at *
    cases hx with
    |ptr hk=>rename_i kb off sp;refine lO.value (w':=w) ?_ (Next.refl hi) (dW.ptr hk);simp only[G9,ho,he,Instr.fieldAt,Instr.sureAddr,fieldPlace,Sem.run_bind,A9 hu,Result.andThen_ok,hfd,Sem.run_pure,bV h1];simp[hn,uQ,Nat.add_assoc]
  ·cases h
 ·cases h
def aBi{R:Type}(P:Q9)(t:I9)(x i:V9)(k:KVO R):Option R:=
 match P.underlying t,x,i with
 |some (.array len elem),.pointer (some ad),.int _ i=>
  bif decide (0<=i)&&decide (i<len)&&ad.spot.isNone then(calm P (sizeOf elem)).bind λn=>k (.pointer (some ⟨ad.block,ad.off+i.toNat*n,none⟩)) else none
 |some (.slice elem),.slice (some ad) len _,.int _ i=>
  bif decide (0<=i)&&decide (i<len)&&ad.spot.isNone then(calm P (sizeOf elem)).bind λn=>k (.pointer (some ⟨ad.block,ad.off+i.toNat*n,none⟩)) else none
 |_,_,_=>none
theorem aCw{R:Type}{P:Q9}{lo:Nat}{H:AH}{t:I9}{x i:V9}{xo io:Y9}{k:V9->Option R}{r:R}(h:aBi P t x i k=some r){o:X9}(ho:o.op=.indexAddr t xo io):∃v,k v=some r/\∀{ρ:Map}{w:W9}{a:Act},Inv ρ H w->dW ρ x (a.eval xo)->dW ρ i (a.eval io)->lO P lo o a ρ H w v H:=by
 unfold aBi at h;split at h
 ·rename_i len elem ad kk i hu;cases hc:(decide (0<=i)&&decide (i<(len:Int))&&ad.spot.isNone) with
  |false=>rw[hc]at h;cases h
  |true=>
   rw[hc]at h;simp only[T7]at h;simp only[B9,decide_eq_true_eq]at hc;obtain⟨n,h1,h⟩:=aB h;refine⟨_,h,λ{ρ w a} hi hx hy=>?_⟩;generalize he:a.eval xo=x' at *
   generalize he2:a.eval io=i' at *
   cases hx with
   |ptr hk=>cases hy;refine lO.value (w':=w) ?_ (Next.refl hi) (dW.ptr hk);simp only[G9,ho,he,he2,Instr.indexAt,Instr.sureAddr,asIntOf,Sem.run_bind,A9 hu,Result.andThen_ok,Sem.run_pure,bV h1];rw[if_pos hc.1];simp[bV h1,uQ,Nat.add_assoc]
 ·rename_i elem ad len cap kk i hu;cases hc:(decide (0<=i)&&decide (i<(len:Int))&&ad.spot.isNone) with
  |false=>rw[hc]at h;cases h
  |true=>
   rw[hc]at h;simp only[T7]at h;simp only[B9,decide_eq_true_eq]at hc;obtain⟨n,h1,h⟩:=aB h;refine⟨_,h,λ{ρ w a} hi hx hy=>?_⟩;generalize he:a.eval xo=x' at *
   generalize he2:a.eval io=i' at *
   cases hx with
   |slice hk=>cases hy;refine lO.value (w':=w) ?_ (Next.refl hi) (dW.ptr hk);simp only[G9,ho,he,he2,Instr.indexAt,asIntOf,Sem.run_bind,A9 hu,Result.andThen_ok,Sem.run_pure];rw[if_pos hc.1];simp[bV h1,uQ,Nat.add_assoc]
 ·cases h
def wA(x:Option V9)(dflt:Nat)(most:Nat):Option Nat:=
 match x with
 |none=>some dflt
 |some (.int _ i)=>bif decide (0<=i)&&decide (i<=most) then some i.toNat else none
 |_=>none
def bBd{R:Type}(P:Q9)(H:AH)(t:I9)(x:V9)(lo hi:Option V9)(k:V9->AH->Option R):Option R:=
 match P.underlying t,x with
 |some (.slice elem),.slice (some ad) n c=>
  (wA hi n c).bind λh=>(wA lo 0 h).bind λl=>(calm P (sizeOf elem)).bind λsize=>
   bif(Nat.blt l c||N9 l 0)&&Nat.ble l c&&ad.spot.isNone then k (.slice (some ⟨ad.block,ad.off+l*size,none⟩) (h-l) (c-l)) H
   else bif N9 l c&&N9 h l&&ad.spot.isNone then k (.slice (some ⟨H.next,0,none⟩) 0 0) ⟨H.next+1,H.objs⟩ else none
 |some (.slice elem),.slice none n c=>
  (wA hi n c).bind λh=>(wA lo 0 h).bind λl=>(calm P (sizeOf elem)).bind λsize=>k (.slice none (h-l) (c-l)) H
 |_,_=>none
inductive bHb(ρ:Map):Option V9->Option V9->Prop
 |none:bHb ρ none none
 |some {v v':V9} (h:dW ρ v v'):bHb ρ (some v) (some v')
end Go.Vm
